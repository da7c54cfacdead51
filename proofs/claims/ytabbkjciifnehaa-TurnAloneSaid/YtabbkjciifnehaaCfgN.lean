/-
  ALL GOROUTINES OF A GAME: a thread that only leaves goes on ('cfg_quit'); the machine draws ('Cfg.at'). Of any program that holds the library's functions.
-/
import Derived.Test.YtabbkjciifnehaaCfgG
set_option linter.unusedVariables false
set_option linter.unusedSimpArgs false
namespace Go.PB
open Go.Conc Go.Conc.Lib
open Go.ConcR (KK stA smA rd wr mk DC0)

variable {W0 : World} {P : Program} {cv : Value} {L : WgLink} {Em : Frame → List Frame → Hp → MX → Prop}

theorem allK_mute {t u : Trace} {i : Nat} {K K' : Nat → Prop} (h : AllK t i K) (hK : ∀ j, K j → K' j) (hm : ∀ op ∈ u, op.act.touch? = none) : AllK (t ++ u) i K' := by
  intro j hj hc
  rcases Nat.lt_or_ge j t.size with hlt | hge
  · exact hK _ (h j (by rw [← g?_app hlt]; exact hj) ((counts_old hlt).1 hc))
  · exfalso
    obtain ⟨x, h1, _⟩ := hc
    obtain ⟨op, ho, hx⟩ := touch_of h1
    rcases getElem?_append_cases ho with ⟨h2, _⟩ | ⟨_, h2⟩
    · omega
    · rw [hm op h2] at hx; cases hx

theorem slotKn_mute {t u : Trace} {wg i m m' : Nat} {h : Hp} (k : SlotKn t wg i h (.out 0 m : Slot P cv L)) (hm : ∀ op ∈ u, op.act.touch? = none) : SlotKn (t ++ u) wg i h (.out 0 m' : Slot P cv L) := by
  obtain ⟨h6, _⟩ | ⟨_, ⟨p, h1, h2, h3⟩, _⟩ := k
  · omega
  · exact .inr ⟨by omega, ⟨p, h1.app u, kn_mute h2 (fun j h => h.app u) hm, allK_mute h3 (fun j h => h.app u) hm⟩, fun h => by omega, fun h => by omega⟩

section
variable {gs : Array Goroutine} {w : World} {t : Trace} {M : MN P cv L Em} {sl : List (Slot P cv L)} {hp : Nat → Hp} {X : GX} {nb i k m : Nat} {g : Goroutine} {sc : Option (Nat × Nat)}

theorem mute_act {e : Event} (h : e.mute = true) : (MemAct.ofEvent e).touch? = none ∧ ∀ a, MemAct.ofEvent e ≠ .mark (.release a) := by
  obtain ⟨loc, wr, sy⟩ := e
  cases loc with
  | mark m => cases m <;> first | (simp [Event.mute] at h; done) | (cases wr <;> cases sy <;> exact ⟨rfl, fun a h => by cases h⟩)
  | _ => simp [Event.mute] at h

/-- (4) A THREAD THAT ONLY LEAVES -/
theorem cfg_quit (c : Cfg W0 gs w t M sl hp) (hs : sl[i]? = some (.out 0 m)) (hg : gs[i + 1]? = some g) (hr : g.status = .running) :
    ∃ gs' ops m', runT P (crowd gs w sc) (i + 1) = (.next (crowd gs' w sc), ops) ∧ m' < m ∧ Cfg W0 gs' w (t ++ ops) M (sl.set i (.out 0 m')) hp := by
  obtain ⟨g0, hg0, hz⟩ := c.thr _ _ hs
  rw [hg] at hg0; cases hg0
  replace hz : QuitsD P m (Deaf t (i + 1)) g := hz
  have hlt := (List.getElem?_eq_some_iff.1 hs).1
  cases m with
  | zero => have := hz.1; rw [hr] at this; cases this
  | succ m =>
    rcases hz with ⟨hf, _⟩ | ⟨_, g', es, hes, hstep, hq⟩
    · rw [hr] at hf; cases hf
    have hst' : stepG P (i + 1 == 0) g w = .go g' w es := hstep w
    refine ⟨_, _, m, runT_crowd_go hg hst', Nat.lt_succ_self _, ?_⟩
    have q := gs_go (P := P) (g' := g') (w' := w) hg
    have hnb : g'.status ≠ .blocked := fun h => by have := QuitsD.status hq; rw [h] at this; rcases this with h | h <;> cases h
    generalize hgs' : (gs.map (woken P g g' w)).setIfInBounds (i + 1) g' = gs' at q
    obtain ⟨u, hu⟩ : ∃ u, u = MemOp.ofEvents (i + 1) g.frame.fn g.frame.place es := ⟨_, rfl⟩
    have hdf : Deaf (t ++ u) (i + 1) = deafBehind (Deaf t (i + 1)) es := by rw [hu]; exact Deaf_own ..
    have hug : ∀ op ∈ u, op.g = i + 1 := fun op ho => by rw [hu] at ho; obtain ⟨e, _, rfl⟩ := ofEvents_mem ho; rfl
    have hum : ∀ op ∈ u, op.act.touch? = none := fun op ho => by rw [hu] at ho; obtain ⟨e, h1, rfl⟩ := ofEvents_mem ho; exact (mute_act (hes e h1)).1
    have hur : ∀ op ∈ u, ∀ a, op.act ≠ .mark (.release a) := fun op ho => by rw [hu] at ho; obtain ⟨e, h1, rfl⟩ := ofEvents_mem ho; exact (mute_act (hes e h1)).2
    rw [← hu]
    clear hu
    have hng : ∀ k, k ≠ i + 1 → ∀ op ∈ u, op.g ≠ k := fun k hk op ho e => hk (by rw [← e, hug op ho])
    refine ⟨by rw [q.size, List.length_set]; exact c.size, ?_, fun k sx hk => ?_, c.mem.mute c.mem.fits (Nat.le_refl _) hum hur, c.aft, c.hp0, fun k hk => c.hpn k (by simpa using hk), fun k op hk => ?_, kn_mute c.kn0 (fun j h => h.app u) hum, ?_⟩
    · obtain ⟨g, h1, h2⟩ := c.main
      obtain ⟨x, x', w2, h3⟩ := q.other 0 g (by omega) h1
      exact ⟨_, h3, h2.woken⟩
    · by_cases hki : k = i
      · subst hki
        simp [hlt] at hk
        subst hk
        exact ⟨_, q.self, show QuitsD P m _ g' by rw [hdf]; exact hq⟩
      · rw [List.getElem?_set_ne fun e => hki e.symm] at hk
        obtain ⟨g, h1, h2⟩ := c.thr k sx hk
        obtain ⟨x, x', w2, h3⟩ := q.other (k + 1) g (by omega) h1
        exact ⟨_, h3, slot_woken (Deaf_others (hng _ (by omega))) (fun h => h) h2⟩
    · simp only [List.length_set]
      rcases getElem?_append_cases hk with ⟨_, h⟩ | ⟨_, h⟩
      · exact c.tg k op h
      · rw [hug op h]; omega
    · have hgame := c.game
      cases hM : M.x with
      | idle =>
        rw [hM] at hgame
        refine ⟨fun k sx hk => ?_, by rw [Deaf_others (hng 0 (by omega))]; exact hgame.deaf, fun g0 h0 hb => hgame.runs g0 (q.back _ _ (by omega) h0 hb) hb⟩
        by_cases hki : k = i
        · subst hki
          simp [hlt] at hk
          subst hk
          have ho := hgame.old k _ hs
          exact ⟨⟨m, rfl⟩, ho.empty, allK_mute ho.all (fun j h => h.app u) hum⟩
        · rw [List.getElem?_set_ne fun e => hki e.symm] at hk
          exact (hgame.old k sx hk).app (hng _ (by omega))
      | game X =>
        rw [hM] at hgame
        obtain ⟨nb, hG⟩ := hgame
        have hstg : (sl.set i (.out 0 m)).map Slot.stage = sl.map Slot.stage := by
          apply List.ext_getElem?
          intro k
          rw [List.getElem?_map, List.getElem?_map]
          by_cases hki : i = k
          · subst hki; rw [List.getElem?_set_self hlt, hs]; rfl
          · rw [List.getElem?_set_ne hki]
        refine ⟨nb, ⟨by rw [List.length_set]; exact hG.len, fun k sx hk hc => ?_, fun k cx hc => ?_, fun k sx hc => ?_, hG.chan, hG.dist, hG.noch, hG.nowg, by rw [hstg]; exact hG.wg, fun k b o ho2 hb hl => ?_, ?_, hG.tok0, hG.tok1, hG.adp, hG.ads, hG.adl, fun k cx gx hc hgx hsx hb => ?_, fun g0 cases shp hg hb ho => ?_, fun g0 hg hb ho => hG.sleep g0 (q.back _ _ (by omega) hg hb) hb ho, fun k cx b i x hc hb hx hl => ?_⟩⟩
        · by_cases hki : k = i
          · subst hki
            simp [hlt] at hc
            subst hc
            have ho := hG.old k _ hk hs
            exact ⟨⟨m, rfl⟩, ho.empty, allK_mute ho.all (fun j h => h.app u) hum⟩
          · rw [List.getElem?_set_ne fun e => hki e.symm] at hc
            exact (hG.old k sx hk hc).app (hng _ (by omega))
        · obtain ⟨sx, h1, h2⟩ := hG.seat k cx hc
          by_cases hki : nb + k = i
          · subst hki
            rw [hs] at h1; cases h1
            exact ⟨.out 0 m, by simp [hlt], h2⟩
          · exact ⟨sx, by rw [List.getElem?_set_ne fun e => hki e.symm]; exact h1, h2⟩
        · by_cases hki : nb + k = i
          · subst hki
            simp [hlt] at hc
            subst hc
            exact slotKn_mute (hG.know k _ hs) hum
          · rw [List.getElem?_set_ne fun e => hki e.symm] at hc
            exact (hG.know k sx hc).app (hng _ (by omega)) fun kk hK => kn_mute kk hK hum
        · rcases touch_split hb with hb | ⟨op, ho, hi, h2⟩
          · rcases hG.wgt k b o ho2 hb hl with this | ⟨k0, k1⟩
            · refine .inl ⟨this.1, fun hsd => ?_⟩
              have h1 := this.2 hsd
              rw [g?_app (g?_lt h1)]; exact h1
            · exact .inr ⟨k0.app u, fun j c hj => (k1 j c hj).app u⟩
          · rw [hum op ho] at h2; cases h2
        · rw [Deaf_others (hng 0 (by omega))]; exact hG.deaf
        · by_cases hki : nb + k = i
          · subst hki; rw [q.self] at hgx; cases hgx; exact hnb hb
          · exact hG.live k cx gx hc (q.back _ _ (by omega) hgx hb) hsx hb
        · obtain ⟨k, cx, h1, h2, h3, h4⟩ := hG.park g0 cases shp (q.back _ _ (by omega) hg hb) hb ho
          refine ⟨k, cx, h1, h2, h3, fun g hg2 hb2 => ?_⟩
          by_cases hki : nb + k = i
          · subst hki; rw [q.self] at hg2; cases hg2; exact hnb hb2
          · exact h4 g (q.back _ _ (by omega) hg2 hb2) hb2
        · rcases touch_split hx with hx | ⟨op, ho, _, h2⟩
          · exact (hG.cht k cx b i x hc hb hx hl).app u
          · rw [hum op ho] at h2; cases h2
end
end Go.PB
/-
  ALL GOROUTINES OF A GAME: the starter's bookkeeping at the group: marks, adding, looking, swapping ('Cfg.book', 'cfg_disable' .. ). Of any program that holds the library's functions.
-/
set_option linter.unusedVariables false
set_option linter.unusedSimpArgs false
namespace Go.PB
open Go.Conc Go.Conc.Lib
open Go.ConcR (KK stA smA rd wr mk DC0)

variable {W0 : World} {P : Program} {cv : Value} {L : WgLink} {Em : Frame → List Frame → Hp → MX → Prop}

/-- a trace of the starter's that touches the group's words alone, atomically or by saying so -/
structure Shy0 (wg : Nat) (u : Trace) : Prop where
  g : ∀ op ∈ u, op.g = 0
  touch : ∀ op ∈ u, ∀ b, op.act.touch? = some b → (∃ o, o < 2 ∧ b.loc = .cell ⟨wg, o, none⟩) ∧ b.kind ≠ .plain
  norel : ∀ op ∈ u, ∀ a, op.act ≠ .mark (.release a)

def EvShy0 (wg : Nat) (e : Event) : Prop := EvShy wg e ∨ ∃ o, o < 2 ∧ (e = ⟨.mark (.read ⟨wg, o, none⟩), false, true⟩ ∨ e = ⟨.mark (.write ⟨wg, o, none⟩), false, true⟩)

theorem shy0_of {wg : Nat} {fn : FuncId} {pos : String} {es : Array Event} (h : ∀ e ∈ es, EvShy0 wg e) : Shy0 wg (MemOp.ofEvents 0 fn pos es) where
  g := fun op ho => by obtain ⟨e, _, rfl⟩ := ofEvents_mem ho; rfl
  touch := fun op ho b hb => by
    obtain ⟨e, h1, rfl⟩ := ofEvents_mem ho
    rcases h e h1 with h2 | ⟨o, ho2, rfl | rfl⟩
    · have := (evShy_act h2).1 b hb
      exact ⟨this.1, by rw [this.2]; simp⟩
    · have : (MemAct.ofEvent ⟨.mark (.read ⟨wg, o, none⟩), false, true⟩).touch? = some ⟨.cell ⟨wg, o, none⟩, false, .said⟩ := rfl
      rw [this] at hb; cases hb; exact ⟨⟨o, ho2, rfl⟩, by simp⟩
    · have : (MemAct.ofEvent ⟨.mark (.write ⟨wg, o, none⟩), false, true⟩).touch? = some ⟨.cell ⟨wg, o, none⟩, true, .said⟩ := rfl
      rw [this] at hb; cases hb; exact ⟨⟨o, ho2, rfl⟩, by simp⟩
  norel := fun op ho b => by
    obtain ⟨e, h1, rfl⟩ := ofEvents_mem ho
    rcases h e h1 with h2 | ⟨o, ho2, rfl | rfl⟩
    · exact (evShy_act h2).2 b
    · intro e; cases e
    · intro e; cases e

theorem shy0_kn {t u : Trace} {K K' : Nat → Prop} {h : Hp} {wg : Nat} (kn : Kn t K h) (hK : ∀ j, K j → K' j) (s : Shy0 wg u) (hn : ∀ o, h.own wg o = none ∧ h.ro wg o = none) : Kn (t ++ u) K' h where
  own := fun b o v e i b' hb hl => by
    rcases touch_split hb with hb | ⟨op, ho, _, h2⟩
    · exact hK _ (kn.own _ _ _ e _ _ hb hl)
    · obtain ⟨⟨o', _, h1⟩, _⟩ := s.touch op ho b' h2
      rw [h1] at hl; cases hl; rw [(hn o).1] at e; cases e
  ro := fun b o v e i b' hb hl hw => by
    rcases touch_split hb with hb | ⟨op, ho, _, h2⟩
    · exact hK _ (kn.ro _ _ _ e _ _ hb hl hw)
    · obtain ⟨⟨o', _, h1⟩, _⟩ := s.touch op ho b' h2
      rw [h1] at hl; cases hl; rw [(hn o).2] at e; cases e
  obj := fun b v e i b' hb hl => by
    rcases touch_split hb with hb | ⟨op, ho, _, h2⟩
    · exact hK _ (kn.obj _ _ e _ _ hb hl)
    · obtain ⟨⟨o', _, h1⟩, _⟩ := s.touch op ho b' h2
      rw [h1] at hl; cases hl

theorem Mem.shy0 {w w' : World} {t u : Trace} {hp : Nat → Hp} {wg : Nat} {ty : TypeId} {p q p' q' : Int} (m : Mem w t hp) (s : Shy0 wg u) (hn : ∀ i o, (hp i).own wg o = none ∧ (hp i).ro wg o = none)
    (h : ∀ i b o, o < 2 → touchAt t i = some b → b.loc = .cell ⟨wg, o, none⟩ → (b.kind ≠ .plain ∧ (b.kind = .said → t.g? i = some 0)) ∨ Knows t 0 i) (e : WgAt ty wg w p q) (e' : WgAt ty wg w' p' q') (hw : ∀ c, c ≠ wg → w'.heap[c]? = w.heap[c]?) (hs : w'.heap.size = w.heap.size) : Mem w' (t ++ u) hp where
  fits := fun i => fits_wg (m.fits i) (hn i) e e' hw
  sep := m.sep
  nr := fun said => noRace_append (m.nr said) s.g fun i b hb op ho b' hb' hc => by
    obtain ⟨⟨o, ho2, h1⟩, h2⟩ := s.touch op ho b' hb'
    obtain ⟨hl, _, _, h3⟩ := hc
    rw [h1] at hl
    rcases h i b o ho2 hb hl with h4 | hk
    rotate_left
    · exact hk
    rcases h3 with h3 | h3 | ⟨_, h3, _⟩
    · exact absurd h3 h4.1
    · exact absurd h3 h2
    · obtain ⟨op', ho', hog⟩ := Option.map_eq_some_iff.1 (show (t[i]?).map (·.g) = some 0 from h4.2 h3)
      have := knows_own ho'; rwa [hog] at this
  low := fun i b hb => by
    rw [hs]
    rcases touch_split hb with hb | ⟨op, ho, _, h2⟩
    · exact m.low i b hb
    · obtain ⟨⟨o', _, h1⟩, _⟩ := s.touch op ho b h2
      exact ⟨fun d hd => (by rw [h1] at hd; cases hd; exact wgAt_lt e), fun r hr => by rw [h1] at hr; cases hr⟩
  norel := fun op ho b => (Array.mem_append.1 ho).elim (fun ho => m.norel op ho b) (fun ho => s.norel op ho b)

theorem seatAt_book {X : GX} {df : Bool} {ad : Nat} {wt : Wst} {c : St X} {h : Hp} {s : Slot P cv L} (k : SeatAt X c h s) : SeatAt { X with deaf := df, ad := ad, wt := wt } c h s := by
  cases s with
  | act n => exact k
  | out a b => exact k

/-- THE STARTER's BOOKKEEPING -/
theorem Cfg.book {gs gs' : Array Goroutine} {w w' : World} {t u : Trace} {M M' : MN P cv L Em} {sl : List (Slot P cv L)} {hp : Nat → Hp} {X : GX} {nb : Nat} {df : Bool} {ad : Nat} {wt : Wst}
    (c : Cfg W0 gs w t M sl hp) (hX : M.x = .game X) (hG : GameAt X gs w t sl hp nb) (q : Gs P 0 gs gs' (G M'.fr M'.cs))
    (hx : M'.x = .game { X with deaf := df, ad := ad, wt := wt }) (hh : M'.h = M.h)
    (hsd : Side w w') (hw : ∀ b, b ≠ X.wg → w'.heap[b]? = w.heap[b]?) (hsz : w'.heap.size = w.heap.size) (sh : Shy0 X.wg u)
    (ph : WgPh L { X with deaf := df, ad := ad, wt := wt } (sl.map Slot.stage) w') (hdf : Deaf (t ++ u) 0 = if df then 1 else 0)
    (adp : wt = .play → ad = X.seats.length ∨ (ad = X.seats.length + 1 ∧ X.tok.isSome = true))
    (ads : wt ≠ .play → ad = X.seats.length ∧ ∀ (j : Nat) (c : St X), X.seats[j]? = some c → c.st.isShut = true) (adl : ad ≤ 1000) : Cfg W0 gs' w' (t ++ u) M' sl hp := by
  obtain ⟨p1, p2, e1⟩ := hG.wg.ex
  obtain ⟨p3, p4, e2⟩ := ph.ex
  replace e2 : WgAt L.tWg X.wg w' p3 p4 := e2
  have hng : ∀ i, i ≠ 0 → ∀ op ∈ u, op.g ≠ i := fun i hi op ho e => hi (by rw [← e, sh.g op ho])
  have hrl : RL L.tWg X.wg w w' := fun _ => ⟨_, _, e2⟩
  have hmem := c.mem.shy0 sh hG.nowg (fun i b o ho2 hb hl => (hG.wgt i b o ho2 hb hl).imp id fun k => k.1) e1 e2 hw hsz
  refine ⟨by rw [q.size]; exact c.size, ⟨_, q.self, .inl runs_G⟩, fun i sx hi => ?_, hmem, (by rw [hx]; have hg := c.aft.game; rw [hX] at hg; exact c.aft.at_block hg.1 hsd hw hsz hg), by rw [hh]; exact c.hp0, c.hpn, fun i op hi => ?_, ?_, ?_⟩
  · rw [hx]
    obtain ⟨g, h1, h2⟩ := c.thr i sx hi
    rw [hX] at h2
    obtain ⟨x, x', w2, h3⟩ := q.other (i + 1) g (by omega) h1
    exact ⟨_, h3, slot_woken (Deaf_others (hng _ (by omega))) hrl h2⟩
  · rcases getElem?_append_cases hi with ⟨_, h⟩ | ⟨_, h⟩
    · exact c.tg i op h
    · rw [sh.g op h]; omega
  · exact shy0_kn c.kn0 (fun j h => h.app u) sh (hG.nowg 0)
  · rw [hx]
    refine ⟨nb, ⟨hG.len, fun i sx hi hc => (hG.old i sx hi hc).app (hng _ (by omega)), fun k cx hc => ?_, fun k sx hc => ?_, fun k cx hc b hb => ?_, hG.dist, hG.noch, hG.nowg, ph, fun i b o ho2 hb hl => ?_, hdf, hG.tok0, hG.tok1, adp, ads, adl, fun k cx g hc hg hsx hb => ?_, fun g0 cases shp hg hb ho => ?_, fun g0 hg hb ho => ?_, fun k cx b i x hc hb hx hl => ?_⟩⟩
    · obtain ⟨sx, h1, h2⟩ := hG.seat k cx hc
      exact ⟨sx, h1, seatAt_book h2⟩
    · exact (hG.know k sx hc).app (hng _ (by omega)) fun kk hK => shy0_kn kk hK sh (hG.nowg _)
    · obtain ⟨n, e⟩ := hG.chan k cx hc b hb
      refine ⟨n, ?_⟩
      rw [hw _ fun he => ?_]
      · exact e
      · obtain ⟨_, e1, _⟩ := e1; rw [he] at e; rw [e1] at e; cases e
    · rcases touch_split hb with hb | ⟨op, ho, hi, h2⟩
      · rcases hG.wgt i b o ho2 hb hl with this | ⟨k0, k1⟩
        · refine .inl ⟨this.1, fun hsd => ?_⟩
          have h1 := this.2 hsd
          rw [g?_app (g?_lt h1)]; exact h1
        · exact .inr ⟨k0.app u, fun j c hj => (k1 j c hj).app u⟩
      · exact .inl ⟨(sh.touch op ho b h2).2, fun _ => by rw [g?_of hi, sh.g op ho]⟩
    · exact hG.live k cx g hc (q.back _ _ (by omega) hg hb) hsx hb
    · rw [q.self] at hg; cases hg; cases hb
    · rw [q.self] at hg; cases hg; cases hb
    · rcases touch_split hx with hx | ⟨op, ho, _, h2⟩
      · exact (hG.cht k cx b i x hc hb hx hl).app u
      · obtain ⟨⟨o', _, h1⟩, _⟩ := sh.touch op ho x h2
        rw [h1] at hl; cases hl
end Go.PB
/-
  ALL GOROUTINES OF A GAME: the starter's operations at the group, one by one ('cfg_book'). Of any program that holds the library's functions.
-/
set_option linter.unusedVariables false
set_option linter.unusedSimpArgs false
namespace Go.PB
open Go.Conc Go.Conc.Lib
open Go.ConcR (KK stA smA rd wr mk DC0)

variable {W0 : World} {P : Program} {cv : Value} {L : WgLink} {Em : Frame → List Frame → Hp → MX → Prop}

theorem seen_one {fn : FuncId} {f : FuncId} {m : Mark} (hm : ∀ f, m ≠ .extern f) : seen P fn #[⟨.mark (.extern f), false, true⟩, ⟨.mark m, false, true⟩] = #[⟨.mark m, false, true⟩] := by
  cases m <;> first | (exact absurd rfl (hm _)) | simp [seen]
theorem seen_rd {fn : FuncId} {f : FuncId} {a : Addr} : seen P fn #[⟨.mark (.extern f), false, true⟩, ⟨.cell a, false, true⟩] = #[rd a] := by simp [seen, rd]
theorem seen_rw {fn : FuncId} {f : FuncId} {a : Addr} : seen P fn #[⟨.mark (.extern f), false, true⟩, ⟨.cell a, false, true⟩, ⟨.cell a, true, true⟩] = #[rd a, wr a] := by simp [seen, rd, wr]
theorem seen_sem {fn : FuncId} {f : FuncId} {a : Addr} : seen P fn #[⟨.mark (.extern f), false, true⟩, ⟨.mark .disable, false, true⟩, ⟨.cell a, false, true⟩, ⟨.cell a, true, true⟩, ⟨.mark .enable, false, true⟩] = semEvents a := by simp [seen, semEvents]

/-- what the words hold where nobody is parked -/
theorem WgPh.quiet0 {X : GX} {st : List Nat} {w : World} (p : WgPh L X st w) (h : X.wt ≠ .parked) : ∃ v : Nat, WgAt L.tWg X.wg w (v * KK + 0) 0 ∧ v + X.seats.length = (st.filter fun k => decide (4 ≤ k)).length + X.ad ∧ (∀ k ∈ st, k = 0 ∨ 4 ≤ k) ∧
    (match X.wt with | .wait b => v ≤ b | .seen v0 => v ≤ v0 | .woken => v = 0 | .zero => v = 0 | _ => True) := by
  cases p with
  | quiet v wt at_ hv late hw park bb =>
    have : wt = 0 := by
      rw [hw]
      split
      · rename_i e; exact absurd e h
      · rfl
    subst this
    exact ⟨v, by simpa using at_, hv, late, bb⟩
  | late p => exact absurd p h
  | late1 p => exact absurd p h
  | free p => exact absurd p h

theorem count_le {X : GX} {gs : Array Goroutine} {w : World} {t : Trace} {sl : List (Slot P cv L)} {hp : Nat → Hp} {nb : Nat} (hG : GameAt X gs w t sl hp nb) : ((sl.map Slot.stage).filter fun k => decide (4 ≤ k)).length ≤ X.seats.length := by
  have htail := count_tail (p := fun k => decide (4 ≤ k)) rfl (l := sl.map Slot.stage) (n := nb) fun i k hi hk => by
    rw [List.getElem?_map] at hk
    obtain ⟨s, e1, e2⟩ := Option.map_eq_some_iff.1 hk
    obtain ⟨m', rfl⟩ := (hG.old i s hi e1).out
    exact e2.symm
  have hlen := hG.len
  simp only [List.length_map] at htail
  omega

/-- what the starter's own operation may do: it goes on; or it sleeps -/
theorem cfg_book {gs : Array Goroutine} {w : World} {t : Trace} {fr : Frame} {cs : List Frame} {h : Hp} {X : GX} {o : Oper} {O : Value → Hp → MX → Prop} {at_ : AtOp fr o} {ne : fr.kind ≠ .early}
    {a : (mHand P cv L.done L.tWg).act (wakes o) (execOp fr.eval o) h (.game X) fun nx h' x' => ∃ v, nx = .value v ∧ O v h' x'} {k : ∀ v h' x', O v h' x' → Run P (mHand P cv L.done L.tWg) true Em (fr.finish v) cs h' x'}
    {sl : List (Slot P cv L)} {hp : Nat → Hp} {g : Goroutine} {sc : Option (Nat × Nat)}
    (c : Cfg W0 gs w t (⟨fr, cs, h, .game X, .act o O at_ ne a k⟩ : MN P cv L Em) sl hp) (hg : gs[0]? = some g) (hr : Runs g fr cs)
    (ma : MAct P (wakes o) (execOp fr.eval o) h X fun nx h' x' => ∃ v, nx = .value v ∧ O v h' x') :
    (∃ gs' w' ops v h' x' q, runT P (crowd gs w sc) 0 = (.next (crowd gs' w' sc), ops) ∧ Cfg W0 gs' w' (t ++ ops) (⟨fr.finish v, cs, h', x', k v h' x' q⟩ : MN P cv L Em) sl hp) ∨
    (X.wt = .parked ∧ (∃ es, (execOp fr.eval o).runT P w #[] = (.halt .blocked w, es)) ∧ ¬ WgAt L.tWg X.wg w 0 1) ∨
    (X.wt = .zero ∧ X.deaf = false ∧ Says P (execOp fr.eval o) (.acquire ⟨X.wg, 0, none⟩) ∧ ∀ r h', Star (X.seats.map Seat.fins) r → Split h' h r → O unit h' .idle) ∨
    (∃ (j : Nat) (c : St X) (q0 : X.g.θ), X.wt = .play ∧ X.deaf = false ∧ X.ad = X.seats.length ∧ X.tok.isSome = true ∧ X.seats[j]? = some c ∧ c.st = .said q0 ∧ wakes o = true ∧ Shuts P (execOp fr.eval o) c.fin ∧
      O unit h (.game { X with seats := X.seats.set j { c with st := .shut q0 } })) := by
  obtain ⟨nb, hG⟩ : ∃ nb, GameAt X gs w t sl hp nb := c.game
  have hdeaf := hG.deaf
  have key : ∀ {v : Value} {w' : World} {es : Array Event} {df : Bool} {ad : Nat} {wt : Wst}, (execOp fr.eval o).runT P w #[] = (.ok (.value v) w', es) → O v h (.game { X with deaf := df, ad := ad, wt := wt }) → (∀ e ∈ seen P fr.fn es, EvShy0 X.wg e) →
      Side w w' → (∀ b, b ≠ X.wg → w'.heap[b]? = w.heap[b]?) → w'.heap.size = w.heap.size → WgPh L { X with deaf := df, ad := ad, wt := wt } (sl.map Slot.stage) w' → deafBehind (Deaf t 0) (seen P fr.fn es) = (if df then 1 else 0) →
      (wt = .play → ad = X.seats.length ∨ (ad = X.seats.length + 1 ∧ X.tok.isSome = true)) → (wt ≠ .play → ad = X.seats.length ∧ ∀ (j : Nat) (c : St X), X.seats[j]? = some c → c.st.isShut = true) → ad ≤ 1000 →
      (∃ gs' w' ops v h' x' q, runT P (crowd gs w sc) 0 = (.next (crowd gs' w' sc), ops) ∧ Cfg W0 gs' w' (t ++ ops) (⟨fr.finish v, cs, h', x', k v h' x' q⟩ : MN P cv L Em) sl hp) := by
    intro v w' es df ad wt hrun hO hes hsd hw hsz ph hd adp ads adl
    have hst : stepG P ((0 : Nat) == 0) g w = .go (G (fr.finish v) cs) w' (seen P fr.fn es) := by rw [hr.step]; exact step_value at_ ne hrun
    exact ⟨_, _, _, v, h, _, hO, runT_crowd_go hg hst, Cfg.book c rfl hG (gs_go hg) rfl rfl hsd hw hsz (shy0_of hes) ph (by rw [Deaf_own]; exact hd) adp ads adl⟩
  have same : ∀ {df : Bool}, WgPh L { X with deaf := df } (sl.map Slot.stage) w := fun {df} => by
    cases hG.wg with
    | quiet v wt at_ hv late hw park bb => exact .quiet v wt at_ hv late hw park bb
    | late p i k hik hk at_ oth => exact .late p i k hik hk at_ oth
    | late1 p i hik at_ oth => exact .late1 p i hik at_ oth
    | free p at_ oth => exact .free p at_ oth
  have e1 : ∀ e : Event, e ∈ #[rd (stA X.wg)] → EvShy0 X.wg e := fun e he => by simp at he; subst he; exact .inl (.inr ⟨_, _, rfl, by decide⟩)
  have e2 : ∀ e : Event, e ∈ #[rd (stA X.wg), wr (stA X.wg)] → EvShy0 X.wg e := fun e he => by simp at he; rcases he with rfl | rfl <;> exact .inl (.inr ⟨_, _, rfl, by decide⟩)
  cases ma with
  | disable d a q =>
    obtain ⟨v, hv, q⟩ := q; cases hv
    obtain ⟨f, hf⟩ := a
    have hs := seen_one (P := P) (fn := fr.fn) (f := f) (m := .disable) (fun _ => by simp)
    exact .inl (key (hf w) q (by rw [hs]; intro e he; simp at he; subst he; exact .inl (.inl ⟨_, rfl, rfl, fun a h => by cases h⟩)) Side.refl (fun b _ => rfl) rfl same (by rw [hs, hdeaf, d]; rfl) hG.adp hG.ads hG.adl)
  | enable d a q =>
    obtain ⟨v, hv, q⟩ := q; cases hv
    obtain ⟨f, hf⟩ := a
    have hs := seen_one (P := P) (fn := fr.fn) (f := f) (m := .enable) (fun _ => by simp)
    exact .inl (key (hf w) q (by rw [hs]; intro e he; simp at he; subst he; exact .inl (.inl ⟨_, rfl, rfl, fun a h => by cases h⟩)) Side.refl (fun b _ => rfl) rfl same (by rw [hs, hdeaf, d]; rfl) hG.adp hG.ads hG.adl)
  | read m hm a q =>
    obtain ⟨v, hv, q⟩ := q; cases hv
    obtain ⟨f, hf⟩ := a
    have hs := seen_one (P := P) (fn := fr.fn) (f := f) (m := m) (fun _ => by rcases hm with rfl | rfl <;> simp)
    refine .inl (key (df := X.deaf) (hf w) q ?_ Side.refl (fun b _ => rfl) rfl same ?_ hG.adp hG.ads hG.adl)
    · rw [hs]; intro e he; simp at he; subst he
      rcases hm with rfl | rfl
      · exact .inr ⟨1, by decide, .inl rfl⟩
      · exact .inr ⟨1, by decide, .inr rfl⟩
    · rw [hs, hdeaf]
      rcases hm with rfl | rfl <;> cases X.deaf <;> rfl
  | add p hd ha tk d a q =>
    obtain ⟨v, hat, hv, hlate, _⟩ := hG.wg.quiet0 (by rw [p]; simp)
    have hcl := count_le hG
    obtain ⟨v', hv', q⟩ := q v (by omega); cases hv'
    obtain ⟨f, hf⟩ := a
    have hrun := hf w _ hat.cellSt (hat.thaw 0)
    have ew : IntKind.u64.wrap ((v : Int) * KK + 0 + kk) = ((v + 1 : Nat) : Int) * KK := by
      rw [IntKind.wrap_u64]; simp only [KK, kk]; push_cast; omega
    rw [ew] at hrun
    refine .inl (key hrun (by exact q) (by rw [seen_rw]; exact e2) side_setCell (fun b hb => setCell_ne hb) setCell_size (.quiet (v + 1) 0 (by simpa [stA, KK, kk] using hat.setSt _) (by simp only; omega) hlate (by simp only [p]) (by simp only [p]; intro h; cases h) (by simp only [p])) (by rw [seen_rw, hdeaf, d]; rfl) (fun _ => .inr ⟨by omega, tk⟩) (fun h => absurd p h) (by omega))
  | look b p d a q q0 =>
    obtain ⟨v, hat, hv, hlate, hb⟩ := hG.wg.quiet0 (by rcases p with p | p <;> simp [p])
    have hcl := count_le hG
    have hvb : v ≤ b := by
      rcases p with p | ⟨p, p2, p3, _⟩
      · rw [p] at hb; exact hb
      · omega
    have hads : X.ad = X.seats.length ∧ ∀ (j : Nat) (c : St X), X.seats[j]? = some c → c.st.isShut = true := by
      rcases p with p | ⟨p, p2, p3, p4⟩
      · exact hG.ads (by rw [p]; simp)
      · refine ⟨p3, fun j c hc => ?_⟩
        have := p4 c (List.mem_of_getElem? hc)
        unfold Seat.closed at this
        unfold SeatSt.isShut
        cases hcs : c.st <;> simp [hcs] at this ⊢
    obtain ⟨f, hf⟩ := a
    have hrun := hf w _ hat.cellSt
    rcases Nat.eq_zero_or_pos v with rfl | hpos
    · obtain ⟨v', hv', q⟩ := q0; cases hv'
      have ez : (((0 : Nat) : Int) * KK + 0) = 0 := by simp
      rw [ez] at hrun
      exact .inl (key hrun q (by rw [seen_rd]; exact e1) Side.refl (fun b _ => rfl) rfl (.quiet 0 0 (by simpa using hat) hv hlate rfl (fun h => by cases h) rfl) (by rw [seen_rd, hdeaf, d]; rfl) (fun h => by cases h) (fun _ => hads) hG.adl)
    · obtain ⟨v', hv', q⟩ := q v hpos hvb; cases hv'
      have ez : ((v : Int) * KK + 0) = (v : Int) * kk := by simp [KK, kk]
      rw [ez] at hrun
      exact .inl (key hrun q (by rw [seen_rd]; exact e1) Side.refl (fun b _ => rfl) rfl (.quiet v 0 (by simpa using hat) hv hlate rfl (fun h => by cases h) (Nat.le_refl _)) (by rw [seen_rd, hdeaf, d]; rfl) (fun h => by cases h) (fun _ => hads) hG.adl)
  | swap v hpos p d a q q0 =>
    obtain ⟨v', hat, hv, hlate, hb⟩ := hG.wg.quiet0 (by rw [p]; simp)
    rw [p] at hb
    have hads := hG.ads (by rw [p]; simp)
    obtain ⟨f, hf⟩ := a
    have hrun := hf w _ hat.cellSt (hat.thaw 0)
    by_cases he : v' = v
    · subst he
      obtain ⟨v'', hv', q⟩ := q; cases hv'
      have hrun := hrun.1 (by simp [KK, kk])
      refine .inl (key hrun q (by rw [seen_rw]; exact e2) side_setCell (fun b hb => setCell_ne hb) setCell_size (.quiet v' 1 (by simpa [stA, KK, kk] using hat.setSt _) hv hlate rfl (fun _ => hpos) trivial) (by rw [seen_rw, hdeaf, d]; rfl) (fun h => by cases h) (fun _ => hads) hG.adl)
    · obtain ⟨v'', hv', q⟩ := q0 v' (by simp only at hb; omega); cases hv'
      have hrun := hrun.2 (by simp only [KK, kk]; omega)
      exact .inl (key hrun q (by rw [seen_rd]; exact e1) Side.refl (fun b _ => rfl) rfl (.quiet v' 0 (by simpa using hat) hv hlate rfl (fun h => by cases h) (Nat.le_refl _)) (by rw [seen_rd, hdeaf, d]; rfl) (fun h => by cases h) (fun _ => hads) hG.adl)
  | sem p d a q =>
    obtain ⟨f, hf⟩ := a
    have hads := hG.ads (by rw [p]; simp)
    have stay : ∀ {x : Int}, WgAt L.tWg X.wg w x 0 → X.wt = .parked ∧ (∃ es, (execOp fr.eval o).runT P w #[] = (.halt .blocked w, es)) ∧ ¬ WgAt L.tWg X.wg w 0 1 := fun hat =>
      ⟨p, (hf w 0 hat.cellSm (hat.thaw 1)).1 rfl, fun hx => absurd (hat.unique hx).2 (by decide)⟩
    cases hG.wg with
    | quiet v wt at_ hv late hw park bb => exact .inr (.inl (stay at_))
    | late p i k hik hk at_ oth => exact .inr (.inl (stay at_))
    | late1 p i hik at_ oth => exact .inr (.inl (stay at_))
    | free p at_ oth =>
      obtain ⟨v', hv', q⟩ := q; cases hv'
      have hrun := (hf w 1 at_.cellSm (at_.thaw 1)).2 rfl
      have hcnt : ((sl.map Slot.stage).filter fun k => decide (4 ≤ k)) = [] := List.filter_eq_nil_iff.2 fun k hk => by simp [oth k hk]
      refine .inl (key hrun q ?_ side_setCell (fun b hb => setCell_ne hb) setCell_size (.quiet 0 0 (by simpa [smA] using at_.setSm 0) (by rw [hcnt]; simp [hads.1]) (fun k hk => .inl (oth k hk)) rfl (fun h => by cases h) rfl) ?_ (fun h => by cases h) (fun _ => hads) hG.adl)
      · rw [seen_sem]
        intro e he
        simp only [semEvents, List.mem_toArray, List.mem_cons, List.not_mem_nil, or_false] at he
        rcases he with rfl | rfl | rfl | rfl
        · exact .inl (.inl ⟨_, rfl, rfl, fun a h => by cases h⟩)
        · exact .inl (.inr ⟨_, _, rfl, by decide⟩)
        · exact .inl (.inr ⟨_, _, rfl, by decide⟩)
        · exact .inl (.inl ⟨_, rfl, rfl, fun a h => by cases h⟩)
      · rw [seen_sem, hdeaf, d]; rfl
  | last p d a q =>
    obtain ⟨v, hat, hv, hlate, hb⟩ := hG.wg.quiet0 (by rw [p]; simp)
    rw [p] at hb
    replace hb : v = 0 := hb
    subst hb
    have hads := hG.ads (by rw [p]; simp)
    obtain ⟨f, hf⟩ := a
    have hrun := hf w _ hat.cellSt
    obtain ⟨v', hv', q⟩ := q; cases hv'
    have ez : (((0 : Nat) : Int) * KK + 0) = 0 := by simp
    rw [ez] at hrun
    exact .inl (key hrun q (by rw [seen_rd]; exact e1) Side.refl (fun b _ => rfl) rfl (.quiet 0 0 (by simpa using hat) hv hlate rfl (fun h => by cases h) rfl) (by rw [seen_rd, hdeaf, d]; rfl) (fun h => by cases h) (fun _ => hads) hG.adl)
  | acquire p d a q => exact .inr (.inr (.inl ⟨p, d, a, fun r h' h1 h2 => by obtain ⟨v, hv, q⟩ := q r h' h1 h2; cases hv; exact q⟩))
  | shut j cx q0 p d ad tk hj st hw a q => exact .inr (.inr (.inr ⟨j, cx, q0, p, d, ad, tk, hj, st, hw, a, by obtain ⟨v, hv, q⟩ := q; cases hv; exact q⟩))

theorem step_late {main : Bool} {b : Base} {tt : Array Value} {ds : List Deferred} {todo : List Item} {f : Fn} {cap args : Array Value} {cs : List Frame} {w w' : World} {v : Value} {es : Array Event} (hr : (invoke (.fn f cap) args).runT P w #[] = (.ok (.value v) w', es)) :
    stepG P main (G (endFr b tt ({ target := .fn f cap, args } :: ds) todo .returning) cs) w = .go (G (endFr b tt ds todo .returning) cs) w' (seen P b.fn es) := by
  simp only [stepG, G, endFr, unwind, callDeferred, Bool.false_and, Bool.false_eq_true, if_false, hr, GStep.after]
  simp

/-- (6) a deferred call of a function without a body: the starter hears again -/
theorem cfg_late {gs : Array Goroutine} {w : World} {t : Trace} {b : Base} {tt : Array Value} {ds : List Deferred} {todo : List Item} {f : Fn} {cap args : Array Value} {cs : List Frame} {h : Hp} {X : GX} {O : Hp → MX → Prop}
    {a : (mHand P cv L.done L.tWg).late (invoke (.fn f cap) args) h (.game X) O} {k : ∀ h' x', O h' x' → Run P (mHand P cv L.done L.tWg) true Em (endFr b tt ds todo .returning) cs h' x'}
    {sl : List (Slot P cv L)} {hp : Nat → Hp} {g : Goroutine} {sc : Option (Nat × Nat)}
    (c : Cfg W0 gs w t (⟨_, cs, h, .game X, .late b tt ds todo f cap args O rfl a k⟩ : MN P cv L Em) sl hp) (hg : gs[0]? = some g) (hr : Runs g (endFr b tt ({ target := .fn f cap, args } :: ds) todo .returning) cs)
    (d : X.deaf = true) (sy : Says P (invoke (.fn f cap) args) .enable) (q : O h (.game { X with deaf := false })) :
    ∃ gs' w' ops, runT P (crowd gs w sc) 0 = (.next (crowd gs' w' sc), ops) ∧ Cfg W0 gs' w' (t ++ ops) (⟨_, cs, h, _, k h _ q⟩ : MN P cv L Em) sl hp := by
  obtain ⟨nb, hG⟩ : ∃ nb, GameAt X gs w t sl hp nb := c.game
  have hdeaf := hG.deaf
  obtain ⟨f', hf⟩ := sy
  have hs := seen_one (P := P) (fn := b.fn) (f := f') (m := .enable) (fun _ => by simp)
  have same : WgPh L { X with deaf := false } (sl.map Slot.stage) w := by
    cases hG.wg with
    | quiet v wt at_ hv late hw park bb => exact .quiet v wt at_ hv late hw park bb
    | late p i k hik hk at_ oth => exact .late p i k hik hk at_ oth
    | late1 p i hik at_ oth => exact .late1 p i hik at_ oth
    | free p at_ oth => exact .free p at_ oth
  have hst : stepG P ((0 : Nat) == 0) g w = .go (G (endFr b tt ds todo .returning) cs) w (seen P b.fn #[⟨.mark (.extern f'), false, true⟩, ⟨.mark .enable, false, true⟩]) := by rw [hr.step]; exact step_late (hf w)
  exact ⟨_, _, _, runT_crowd_go hg hst, Cfg.book c rfl hG (gs_go hg) rfl rfl Side.refl (fun b _ => rfl) rfl (shy0_of (by rw [hs]; intro e he; simp at he; subst he; exact .inl (.inl ⟨_, rfl, rfl, fun a h => by cases h⟩))) same (by rw [Deaf_own, hs, hdeaf, d]; rfl) hG.adp hG.ads hG.adl⟩
end Go.PB
/-
  COMMUNICATION's LAWS: a select whose k-th case is a send meets a receiver; a receive meets one that is parked at a select with a send among its cases; what a meeting tells ('met_knows'). No program is in sight.
-/
set_option linter.unusedVariables false
set_option linter.unusedSimpArgs false
namespace Go.PB
open Go.Conc

section
variable {P : Program} {gs : Array Goroutine} {w w₁ : World} {sl : Option (Nat × Nat)} {i j k : Nat} {g g₂ gj : Goroutine} {es : Array Event} {c cap s r : Nat} {buf : Array Value} {tm closed : Bool} {v z zj : Value}
  {blocking : Bool} {shape shj : CommShape} {cs cases : Array CommCase}

theorem crowd_sel_send_meets (hi : gs[i]? = some g) (h : stepG P (i == 0) g w = .comm g₂ cases blocking shape w₁ es) (hk : cases[k]? = some (scase c v z))
    (ho : ∀ (m : Nat) (c' : CommCase), m ≠ k → cases[m]? = some c' → NoWays w₁ (gs.setIfInBounds i ph) c')
    (hc : w₁.heap[c]? = some (.chan cap buf false s r tm)) (hij : j ≠ i) (hj : gs[j]? = some (parked gj #[rcase c zj] shj)) (hp : partners (gs.setIfInBounds i ph) c false = [(j, 0)]) :
    runT P (crowd gs w sl) i = (.next (crowd ((gs.setIfInBounds j (gj.finishComm P #[rcase c zj] shj 0 v true)).setIfInBounds i (g₂.finishComm P cases shape k undef false)) (w₁.setChan c cap buf false (s + 1) (r + 1) tm) sl),
      MemOp.ofEvents i g.frame.fn g.frame.place es ++ #[{ g := i, fn := g₂.frame.fn, pos := g₂.frame.place, act := .send c s }, { g := j, fn := gj.frame.fn, pos := gj.frame.place, act := .recv c r cap },
        { g := i, fn := g₂.frame.fn, pos := g₂.frame.place, act := .sendDone c s }, { g := j, fn := gj.frame.fn, pos := gj.frame.place, act := .recvDone c r }]) := by
  have hw : ways w₁ (gs.setIfInBounds i ph) (scase c v z) = [.partner j 0] := by simp [ways, scase, hc, hp]
  have hj' := stand_get (i := i) hij hj
  have hfp := finishPartner_at P (gs.setIfInBounds i ph) hj' (cs := #[rcase c zj]) (sh := shj) rfl 0 v
  have hgd : (gs.setIfInBounds i ph).getD j default = parked gj #[rcase c zj] shj := by rw [Array.getD_eq_getD_getElem?, hj']; rfl
  rw [runT_crowd_comm hi h]
  unfold communicate
  simp only [ready_one hk (by rw [hw]; simp) ho, hw]
  rw [if_neg]
  · simp [choose, Sem.run, Question.forced, bind, Sem.bind, pure, rcase, crowd, hc, hfp, hgd, set_stand2, finishComm_parked, scase, parked, World.setChan]
    rfl
  · rw [Bool.not_eq_true]; exact any_ill (made_of_one hk (made_send v z hc) ho)

theorem crowd_recv_meets_sel (hi : gs[i]? = some g) (h : stepG P (i == 0) g w = .comm g₂ #[rcase c z] blocking shape w₁ es) (hc : w₁.heap[c]? = some (.chan cap #[] closed s r tm))
    (hij : j ≠ i) (hj : gs[j]? = some (parked gj cs shj)) (hk : cs[k]? = some (scase c v zj)) (hp : partners (gs.setIfInBounds i ph) c true = [(j, k)]) :
    runT P (crowd gs w sl) i = (.next (crowd ((gs.setIfInBounds j (gj.finishComm P cs shj k undef false)).setIfInBounds i (g₂.finishComm P #[rcase c z] shape 0 v true)) (w₁.setChan c cap #[] closed (s + 1) (r + 1) tm) sl),
      MemOp.ofEvents i g.frame.fn g.frame.place es ++ #[{ g := j, fn := gj.frame.fn, pos := gj.frame.place, act := .send c s }, { g := i, fn := g₂.frame.fn, pos := g₂.frame.place, act := .recv c r cap },
        { g := j, fn := gj.frame.fn, pos := gj.frame.place, act := .sendDone c s }, { g := i, fn := g₂.frame.fn, pos := g₂.frame.place, act := .recvDone c r }]) := by
  rw [runT_crowd_comm hi h]
  have hj' := stand_get (i := i) hij hj
  have hfp := finishPartner_at P (gs.setIfInBounds i ph) hj' (cs := cs) (sh := shj) rfl k undef
  have hgd : (gs.setIfInBounds i ph).getD j default = parked gj cs shj := by rw [Array.getD_eq_getD_getElem?, hj']; rfl
  have hov : offeredValue (gs.setIfInBounds i ph) j k = v := by simp [offeredValue, hj', parked, hk, scase]
  simp [communicate, ways, rcase, hc, hp, choose, Sem.run, Question.forced, bind, Sem.bind, pure, World.setChan, crowd, hfp, hgd, hov, set_stand2, finishComm_parked, scase, parked, hk]
  rfl
end

/-- the four operations of a meeting: giver a, taker b -/
def meet (a b : Nat) (fa : FuncId) (pa : String) (fb : FuncId) (pb : String) (c k : Nat) : Trace :=
  #[{ g := a, fn := fa, pos := pa, act := .send c k }, { g := b, fn := fb, pos := pb, act := .recv c k 0 }, { g := a, fn := fa, pos := pa, act := .sendDone c k }, { g := b, fn := fb, pos := pb, act := .recvDone c k }]

section
variable {a b c k : Nat} {fa fb : FuncId} {pa pb : String} {t : Trace}
theorem meet_mute : ∀ op ∈ meet a b fa pa fb pb c k, op.act.touch? = none := by
  intro op hop
  simp only [meet, List.mem_toArray, List.mem_cons, List.not_mem_nil, or_false] at hop
  rcases hop with rfl | rfl | rfl | rfl <;> rfl
theorem meet_norel : ∀ op ∈ meet a b fa pa fb pb c k, ∀ x, op.act ≠ .mark (.release x) := by
  intro op hop x
  simp only [meet, List.mem_toArray, List.mem_cons, List.not_mem_nil, or_false] at hop
  rcases hop with rfl | rfl | rfl | rfl <;> simp
theorem meet_g : ∀ op ∈ meet a b fa pa fb pb c k, op.g = a ∨ op.g = b := by
  intro op hop
  simp only [meet, List.mem_toArray, List.mem_cons, List.not_mem_nil, or_false] at hop
  rcases hop with rfl | rfl | rfl | rfl <;> simp
theorem meet_plain : ∀ op ∈ meet a b fa pa fb pb c k, Plain op := by
  intro op hop m hm
  simp only [meet, List.mem_toArray, List.mem_cons, List.not_mem_nil, or_false] at hop
  rcases hop with rfl | rfl | rfl | rfl <;> cases hm

/-- the taker knows all that the giver knew -/
theorem meet_knows (ha : Deaf t a = 0) (hb : Deaf t b = 0) {i : Nat} (h : Knows t a i) : Knows (t ++ meet a b fa pa fb pb c k) b i := by
  have e0 : (t ++ meet a b fa pa fb pb c k)[t.size]? = some { g := a, fn := fa, pos := pa, act := .send c k } := by simp [meet]
  have e3 : (t ++ meet a b fa pa fb pb c k)[t.size + 3]? = some { g := b, fn := fb, pos := pb, act := .recvDone c k } := by simp [meet]
  have hd : (t ++ meet a b fa pa fb pb c k).deaf b (t.size + 3) = 0 := by
    have e1 : (t ++ meet a b fa pa fb pb c k)[t.size + 1]? = some { g := b, fn := fb, pos := pb, act := .recv c k 0 } := by simp [meet]
    have e2 : (t ++ meet a b fa pa fb pb c k)[t.size + 2]? = some { g := a, fn := fa, pos := pa, act := .sendDone c k } := by simp [meet]
    rw [deaf_succ e2, deaf_succ e1, deaf_succ e0, deaf_old (Nat.le_refl _)]
    exact hb
  have edge : HappensBefore (t ++ meet a b fa pa fb pb c k) t.size (t.size + 3) :=
    Relation.TransGen.single (.inr ⟨.handOver (act?_of e0) (act?_of e3), ⟨a, g?_of e0, by rw [deaf_old (Nat.le_refl _)]; exact ha⟩, ⟨b, g?_of e3, hd⟩⟩)
  exact ⟨t.size + 3, _, e3, rfl, .inr ((h.hb_new (Nat.le_refl _) e0 rfl).trans edge)⟩
end
end Go.PB
/-
  ALL GOROUTINES OF A GAME: who offers what at the game's channels ('offers_at'). Of any program that holds the library's functions.
-/
set_option linter.unusedVariables false
set_option linter.unusedSimpArgs false
namespace Go.PB
open Go.Conc Go.Conc.Lib
open Go.ConcR (KK stA smA rd wr mk DC0)

variable {W0 : World} {P : Program} {cv : Value} {L : WgLink} {Em : Frame → List Frame → Hp → MX → Prop}

theorem offers_sr {g : Goroutine} {c d ch : Nat} {v z1 z2 : Value} {sh : CommShape} (b : Bool) : offersAt (parked g #[scase c v z1, rcase d z2] sh) ch b = if b then (if c = ch then [0] else []) else (if d = ch then [1] else []) := by
  cases b <;> by_cases h1 : c = ch <;> by_cases h2 : d = ch <;> simp [offersAt, parked, scase, rcase, h1, h2]
theorem offers_rr {g : Goroutine} {c d ch : Nat} {z1 z2 : Value} {sh : CommShape} (b : Bool) : offersAt (parked g #[rcase c z1, rcase d z2] sh) ch b = if b then [] else (if c = ch then [0] else []) ++ (if d = ch then [1] else []) := by
  cases b <;> by_cases h1 : c = ch <;> by_cases h2 : d = ch <;> simp [offersAt, parked, scase, rcase, h1, h2]
theorem offers_none {g : Goroutine} (h : g.offers = none) (c : Nat) (b : Bool) : offersAt g c b = [] := by
  unfold offersAt
  rw [h]
  cases g.status <;> rfl

section
variable {fr : Frame} {cs : List Frame} {h h' : Hp} {o : Oper} {cases : Array CommCase} {bl : Bool} {sh : CommShape} {at_ : AtOp fr o} {rr : ∀ w, Fits h w → (execOp fr.eval o).runT P w #[] = (.ok (.comm cases bl sh) w, #[])}

/-- what a thread's communication is -/
theorem thr_comm {X : GX} {cx : St X} {x : TX} {O : Value → Hp → TX → Prop} {a : (tHand cv).comm cases bl sh h x O} {k : ∀ v h' x', O v h' x' → Run P (tHand cv) false (tEnd P L.done) (fr.finish v) cs h' x'}
    (sa : SeatAt X cx h' (.act ⟨fr, cs, h, x, .comm o cases bl sh O at_ rr a k⟩ : Slot P cv L)) :
    bl = true ∧ sh = .select ∧
    ((∃ s q n z1 z2 h1 r, cx.st = .run s q ∧ X.left ≤ n ∧ cases = #[scase cx.says (X.g.says q) z1, rcase cx.fin z2] ∧ Split h h1 r ∧ X.g.U s r ∧
        O (.tuple #[goInt 0, .bool false, z2]) h1 ⟨X.g, cx.says, cx.turn, cx.fin, X.wg, X.g.next q n⟩) ∨
     (∃ q n m f z1 z2, (cx.st = .said q ∨ cx.st = .shut q) ∧ (cx.st = .said q → X.left ≤ n) ∧ X.g.plan q = some (m, f) ∧ cases = #[rcase cx.turn z1, rcase cx.fin z2] ∧
        (∀ n' s r h', n = n' + 1 → X.g.W s r → Split h' h r → O (.tuple #[goInt 0, .bool true, .agg #[], z2]) h' ⟨X.g, cx.says, cx.turn, cx.fin, X.wg, .busy (f s).1 (f s).2 n'⟩) ∧
        O (.tuple #[goInt 1, .bool false, z1, z2]) h ⟨X.g, cx.says, cx.turn, cx.fin, X.wg, .cut q⟩)) := by
  obtain ⟨ph, e, p⟩ := sa
  replace e : x = _ := e
  subst e
  have a' : bl = true ∧ sh = .select ∧
      ((∃ (s : X.g.σ) (q : X.g.θ) (n : Nat) (z1 z2 : Value) (h' r : Hp), ph = .busy s q n ∧ cases = #[scase cx.says (X.g.says q) z1, rcase cx.fin z2] ∧ Split h h' r ∧ X.g.U s r ∧
          O (.tuple #[goInt 0, .bool false, z2]) h' ⟨X.g, cx.says, cx.turn, cx.fin, X.wg, X.g.next q n⟩) ∨
       (∃ (q : X.g.θ) (n : Nat) (m : Int × Int) (f : X.g.σ → X.g.σ × X.g.θ) (z1 z2 : Value), ph = .said q n ∧ X.g.plan q = some (m, f) ∧ cases = #[rcase cx.turn z1, rcase cx.fin z2] ∧
          (∀ n' s r h', n = n' + 1 → X.g.W s r → Split h' h r → O (.tuple #[goInt 0, .bool true, .agg #[], z2]) h' ⟨X.g, cx.says, cx.turn, cx.fin, X.wg, .busy (f s).1 (f s).2 n'⟩) ∧
          O (.tuple #[goInt 1, .bool false, z1, z2]) h ⟨X.g, cx.says, cx.turn, cx.fin, X.wg, .cut q⟩)) := a
  obtain ⟨b1, b2, ⟨s, q, n, z1, z2, h1, r, e1, e2, e3, e4, e5⟩ | ⟨q, n, m, f, z1, z2, e1, e2, e3, e4, e5⟩⟩ := a'
  · refine ⟨b1, b2, .inl ⟨s, q, n, z1, z2, h1, r, ?_, ?_, e2, e3, e4, e5⟩⟩
    · rw [e1] at p
      generalize cx.st = st at p
      cases p; rfl
    · rw [e1] at p
      generalize cx.st = st at p
      cases p; assumption
  · rw [e1] at p
    refine ⟨b1, b2, .inr ⟨q, n, m, f, z1, z2, ?_, ?_, e2, e3, e4, e5⟩⟩
    · generalize cx.st = st at p
      cases p
      · exact .inl rfl
      · exact .inr rfl
    · intro hst
      rw [hst] at p
      cases p; assumption

/-- what the starter's is -/
theorem main_comm {X : GX} {O : Value → Hp → MX → Prop} (a : (mHand P cv L.done L.tWg).comm cases bl sh h (.game X) O) :
    bl = true ∧ ∃ (j : Nat) (c : St X), X.wt = .play ∧ X.deaf = false ∧ X.seats[j]? = some c ∧
    ((∃ z s q, cases = #[rcase c.says z] ∧ sh = .recv false ∧ c.st = .run s q ∧ X.tok = none ∧ ∀ r h', X.g.U s r → Split h' h r →
        O (X.g.says q) h' (.game { X with tok := some s, seats := X.seats.set j { c with st := .said q } })) ∨
     (∃ z q m f s l h' r, cases = #[scase c.turn (.agg #[]) z] ∧ sh = .send ∧ c.st = .said q ∧ X.g.plan q = some (m, f) ∧ X.tok = some s ∧ X.left = l + 1 ∧ X.ad = X.seats.length ∧ Split h h' r ∧ X.g.W s r ∧
        O undef h' (.game { X with tok := none, left := l, seats := X.seats.set j { c with st := .run (f s).1 (f s).2 } }))) := by
  obtain ⟨b1, X', j, c, e, e2, e3, e4, e5⟩ := a
  cases e
  exact ⟨b1, j, c, e2, e3, e4, e5⟩
end

section
variable {gs : Array Goroutine} {w : World} {t : Trace} {M : MN P cv L Em} {sl : List (Slot P cv L)} {hp : Nat → Hp} {X : GX} {nb : Nat}

/-- WHO OFFERS WHAT -/
theorem offers_at (c : Cfg W0 gs w t M sl hp) (hX : M.x = .game X) (hG : GameAt X gs w t sl hp nb) {j : Nat} {cx : St X} (hj : X.seats[j]? = some cx) {a : Nat} (ha : a < 3) {b : Bool} {i : Nat} {g : Goroutine} (hg : gs[i]? = some g) (ho : offersAt g (cx.ch a) b ≠ []) :
    (i = 0 ∧ ((a = 0 ∧ b = false ∧ ∃ z sh, Parks g M.fr M.cs #[rcase cx.says z] sh) ∨ (a = 1 ∧ b = true ∧ ∃ v z sh, Parks g M.fr M.cs #[scase cx.turn v z] sh))) ∨
    (i = nb + j + 1 ∧ ∃ n, sl[nb + j]? = some (.act n) ∧ ((a = 0 ∧ b = true ∧ ∃ v z1 z2, Parks g n.fr n.cs #[scase cx.says v z1, rcase cx.fin z2] .select) ∨ (a = 2 ∧ b = false) ∨ (a = 1 ∧ b = false ∧ ∃ z1 z2, Parks g n.fr n.cs #[rcase cx.turn z1, rcase cx.fin z2] .select))) := by
  cases i with
  | zero =>
    left
    obtain ⟨g', h1, h2⟩ := c.main
    rw [hg] at h1; cases h1
    refine ⟨rfl, ?_⟩
    rcases h2 with h | ⟨cases, sh, h, hn⟩ | ⟨h, _⟩
    · exact absurd (offersAt_of_not_blocked (by rw [h.status]; simp) _ _) ho
    · obtain ⟨fr, cs, hh, x, o, bl, O, at_, rr, aa, k, rfl⟩ := hn
      replace hX : x = .game X := hX
      subst hX
      obtain ⟨_, jm, cm, _, _, hm, hcase⟩ := main_comm aa
      rcases hcase with ⟨z, s, q, rfl, rfl, _⟩ | ⟨z, q, m, f, s, l, h', r, rfl, rfl, _⟩
      · rw [h.eq] at ho
        left
        cases b with
        | true => rw [offersAt_parked_recv'] at ho; exact absurd rfl ho
        | false =>
          rw [offersAt_parked_recv] at ho
          have e : cm.says = cx.ch a := Decidable.byContradiction fun hne => ho (by rw [if_neg hne])
          obtain ⟨rfl, rfl⟩ := hG.dist jm j cm cx 0 a hm hj (by omega) ha e
          rw [hm] at hj; cases hj
          exact ⟨rfl, rfl, z, _, h⟩
      · rw [h.eq] at ho
        right
        cases b with
        | false => rw [offersAt_parked_send'] at ho; exact absurd rfl ho
        | true =>
          rw [offersAt_parked_send] at ho
          have e : cm.turn = cx.ch a := Decidable.byContradiction fun hne => ho (by rw [if_neg hne])
          obtain ⟨rfl, rfl⟩ := hG.dist jm j cm cx 1 a hm hj (by omega) ha e
          rw [hm] at hj; cases hj
          exact ⟨rfl, rfl, _, z, _, h⟩
    · exact absurd (offers_none h.offers _ _) ho
  | succ i =>
    right
    have hlt : i < sl.length := by have := c.size; have := (Array.getElem?_eq_some_iff.1 hg).1; omega
    obtain ⟨s, hs⟩ : ∃ s, sl[i]? = some s := ⟨sl[i], List.getElem?_eq_getElem hlt⟩
    obtain ⟨g', h1, h2⟩ := c.thr i s hs
    rw [hg] at h1; cases h1
    have nb_of : g.status ≠ .blocked → False := fun h => ho (offersAt_of_not_blocked h _ _)
    cases s with
    | out k m =>
      exfalso
      cases k with
      | zero => exact nb_of fun h => by have := QuitsD.status (P := P) (n := m) h2; rw [h] at this; rcases this with h | h <;> cases h
      | succ k => exact nb_of fun h => by have := zg_running (k := k + 1) h2; rw [h] at this; cases this
    | act n =>
      have hin : nb ≤ i := Nat.le_of_not_lt fun hlt => by obtain ⟨m', e⟩ := (hG.old i _ hlt hs).out; cases e
      obtain ⟨j', rfl⟩ : ∃ j', i = nb + j' := ⟨i - nb, by omega⟩
      obtain ⟨c', hc'⟩ : ∃ c' : St X, X.seats[j']? = some c' := by
        have := hG.len
        exact ⟨X.seats[j']'(by omega), List.getElem?_eq_getElem _⟩
      obtain ⟨s', h3, h4⟩ := hG.seat j' c' hc'
      rw [hs] at h3; cases h3
      rcases h2 with h | ⟨cases, sh, h, hn⟩
      · exact (nb_of (by rw [h.status]; simp)).elim
      · obtain ⟨fr, cs, hh, x, o, bl, O, at_, rr, aa, k, rfl⟩ := hn
        obtain ⟨_, rfl, ⟨s, q, n, z1, z2, h1', r, _, _, rfl, _⟩ | ⟨q, n, m, f, z1, z2, _, _, _, rfl, _⟩⟩ := thr_comm h4
        · rw [h.eq, offers_sr] at ho
          cases b with
          | true =>
            simp only [if_true] at ho
            have e : c'.says = cx.ch a := Decidable.byContradiction fun hne => ho (by rw [if_neg hne])
            obtain ⟨rfl, rfl⟩ := hG.dist j' j c' cx 0 a hc' hj (by omega) ha e
            rw [hc'] at hj; cases hj
            exact ⟨rfl, _, hs, .inl ⟨rfl, rfl, _, z1, z2, h⟩⟩
          | false =>
            simp only [Bool.false_eq_true, if_false] at ho
            have e : c'.fin = cx.ch a := Decidable.byContradiction fun hne => ho (by rw [if_neg hne])
            obtain ⟨rfl, rfl⟩ := hG.dist j' j c' cx 2 a hc' hj (by omega) ha e
            exact ⟨rfl, _, hs, .inr (.inl ⟨rfl, rfl⟩)⟩
        · rw [h.eq, offers_rr] at ho
          cases b with
          | true => simp at ho
          | false =>
            simp only [Bool.false_eq_true, if_false] at ho
            by_cases e : c'.turn = cx.ch a
            · obtain ⟨rfl, rfl⟩ := hG.dist j' j c' cx 1 a hc' hj (by omega) ha e
              rw [hc'] at hj; cases hj
              exact ⟨rfl, _, hs, .inr (.inr ⟨rfl, rfl, z1, z2, h⟩)⟩
            · rw [if_neg e] at ho
              have e : c'.fin = cx.ch a := Decidable.byContradiction fun hne => ho (by rw [if_neg hne]; rfl)
              obtain ⟨rfl, rfl⟩ := hG.dist j' j c' cx 2 a hc' hj (by omega) ha e
              exact ⟨rfl, _, hs, .inr (.inl ⟨rfl, rfl⟩)⟩

/-- as the machine sees it while i's step is taken -/
theorem stand_nil (c : Cfg W0 gs w t M sl hp) (hX : M.x = .game X) (hG : GameAt X gs w t sl hp nb) {j : Nat} {cx : St X} (hj : X.seats[j]? = some cx) {a : Nat} (ha : a < 3) {b : Bool} {i : Nat}
    (h0 : i ≠ 0 → ((a = 0 ∧ b = false) ∨ (a = 1 ∧ b = true)) → ∀ g, gs[0]? = some g → offersAt g (cx.ch a) b = [])
    (h1 : i ≠ nb + j + 1 → ((a = 0 ∧ b = true) ∨ (a = 2 ∧ b = false) ∨ (a = 1 ∧ b = false)) → ∀ g, gs[nb + j + 1]? = some g → offersAt g (cx.ch a) b = []) : partners (gs.setIfInBounds i ph) (cx.ch a) b = [] := by
  refine partners_nil fun k g hk => ?_
  rcases getElem?_stand gs i k g hk with ⟨_, rfl⟩ | ⟨hne, hk⟩
  · exact offersAt_ph _ _
  · refine Decidable.byContradiction fun ho => ?_
    rcases offers_at c hX hG hj ha hk ho with ⟨rfl, h⟩ | ⟨rfl, n, _, h⟩
    · exact ho (h0 (fun e => hne e.symm) (h.imp (fun h => ⟨h.1, h.2.1⟩) fun h => ⟨h.1, h.2.1⟩) g hk)
    · refine ho (h1 (fun e => hne e.symm) ?_ g hk)
      rcases h with h | h | h
      · exact .inl ⟨h.1, h.2.1⟩
      · exact .inr (.inl h)
      · exact .inr (.inr ⟨h.1, h.2.1⟩)

theorem stand_main (c : Cfg W0 gs w t M sl hp) (hX : M.x = .game X) (hG : GameAt X gs w t sl hp nb) {j : Nat} {cx : St X} (hj : X.seats[j]? = some cx) {a : Nat} (ha : a < 3) {b : Bool} {i : Nat} (hi : i ≠ 0) {g : Goroutine} (hg : gs[0]? = some g) (hb : (a = 0 ∧ b = false) ∨ (a = 1 ∧ b = true)) :
    partners (gs.setIfInBounds i ph) (cx.ch a) b = (offersAt g (cx.ch a) b).map fun k => (0, k) := by
  refine partners_one (by rw [Array.getElem?_setIfInBounds_ne hi]; exact hg) fun k x hk hx => ?_
  rcases getElem?_stand gs i k x hx with ⟨_, rfl⟩ | ⟨hne, hx⟩
  · exact offersAt_ph _ _
  · refine Decidable.byContradiction fun ho => ?_
    rcases offers_at c hX hG hj ha hx ho with ⟨rfl, h⟩ | ⟨rfl, n, _, h⟩
    · exact hk rfl
    · rcases h with h | h | h <;> rcases hb with hb | hb <;> (obtain ⟨h1, h2⟩ := hb; simp_all)

theorem stand_thr (c : Cfg W0 gs w t M sl hp) (hX : M.x = .game X) (hG : GameAt X gs w t sl hp nb) {j : Nat} {cx : St X} (hj : X.seats[j]? = some cx) {a : Nat} (ha : a < 3) {b : Bool} {i : Nat} (hi : i ≠ nb + j + 1) {g : Goroutine} (hg : gs[nb + j + 1]? = some g)
    (hb : (a = 0 ∧ b = true) ∨ (a = 1 ∧ b = false)) : partners (gs.setIfInBounds i ph) (cx.ch a) b = (offersAt g (cx.ch a) b).map fun k => (nb + j + 1, k) := by
  refine partners_one (by rw [Array.getElem?_setIfInBounds_ne hi]; exact hg) fun k x hk hx => ?_
  rcases getElem?_stand gs i k x hx with ⟨_, rfl⟩ | ⟨hne, hx⟩
  · exact offersAt_ph _ _
  · refine Decidable.byContradiction fun ho => ?_
    rcases offers_at c hX hG hj ha hx ho with ⟨rfl, h⟩ | ⟨rfl, n, _, h⟩
    · rcases h with h | h <;> rcases hb with hb | hb <;> (obtain ⟨h1, h2⟩ := hb; simp_all)
    · exact hk rfl
end
end Go.PB
/-
  ALL GOROUTINES OF A GAME: a meeting of the starter with a thread ('Cfg.meet'). Of any program that holds the library's functions.
-/
set_option linter.unusedVariables false
set_option linter.unusedSimpArgs false
namespace Go.PB
open Go.Conc Go.Conc.Lib
open Go.ConcR (KK stA smA rd wr mk DC0)

variable {W0 : World} {P : Program} {cv : Value} {L : WgLink} {Em : Frame → List Frame → Hp → MX → Prop}

theorem fits_chan {h : Hp} {w w' : World} {ch n n' : Nat} {o o' : Obj} (f : Fits h w) (hn : h.obj ch = none) (e : w.heap[ch]? = some o) (ho : isCells o = false) (ho' : isCells o' = false) (hw : w'.heap = w.heap.setIfInBounds ch o') : Fits h w' := by
  have hne : ∀ c, c ≠ ch → w'.heap[c]? = w.heap[c]? := fun c hc => by rw [hw, Array.getElem?_setIfInBounds_ne fun e => hc e.symm]
  have hc : ∀ c x, c ≠ ch → w'.cell? ⟨c, x, none⟩ = w.cell? ⟨c, x, none⟩ := fun c x hne' => by unfold World.cell?; rw [hne c hne']
  have hfz : ∀ c x, c ≠ ch → w'.frozen? ⟨c, x, none⟩ = w.frozen? ⟨c, x, none⟩ := fun c x hne' => by unfold World.frozen?; rw [hne c hne']
  have no : ∀ c x v, w.cell? ⟨c, x, none⟩ = some v → c ≠ ch := fun c x v hv he => by
    subst he
    unfold World.cell? at hv
    simp only [e] at hv
    cases o <;> simp [isCells] at ho hv
  refine ⟨fun c x v hv => by rw [hc _ _ (no _ _ _ (f.own _ _ _ hv))]; exact f.own _ _ _ hv, fun c x v hv => by rw [hfz _ _ (no _ _ _ (f.own _ _ _ hv))]; exact f.thaw _ _ _ hv, fun c x v hv => by rw [hc _ _ (no _ _ _ (f.ro _ _ _ hv))]; exact f.ro _ _ _ hv, f.disj, fun c ob hv => ?_, f.objn, fun c y hv => ?_⟩
  · rw [hne c fun e => by rw [e, hn] at hv; cases hv]; exact f.obj _ _ hv
  · have h1 := f.shp _ _ hv
    have hcc : c ≠ ch := fun he => by
      subst he
      unfold World.shape? at h1
      simp only [e] at h1
      cases o <;> simp [isCells] at ho h1
    unfold World.shape? at h1 ⊢
    rw [hne c hcc]; exact h1

theorem slot_rely {w w' : World} {wg d d' : Nat} {o : Goroutine} {s : Slot P cv L} (hd : d' = d) (r : RL L.tWg wg w w') (hs : SlotG w wg d o s) : SlotG w' wg d' o s := by
  subst hd
  cases s with
  | act n => exact hs
  | out k m =>
    cases k with
    | zero => exact hs
    | succ k => exact zg_rely hs r

/-- part of it goes from a to b -/
def give (hp : Nat → Hp) (a b : Nat) (ha r : Hp) : Nat → Hp := put (put hp a ha) b ((hp b).join r)

section
variable {w w' : World} {t u : Trace} {hp : Nat → Hp} {a b : Nat} {ha r : Hp}
theorem give_a (hab : a ≠ b) : give hp a b ha r a = ha := by unfold give; rw [put_ne hab, put_self]
theorem give_b : give hp a b ha r b = (hp b).join r := by unfold give; rw [put_self]
theorem give_ne {i : Nat} (h1 : i ≠ a) (h2 : i ≠ b) : give hp a b ha r i = hp i := by unfold give; rw [put_ne h2, put_ne h1]

theorem give_sep (hab : a ≠ b) (hf : ∀ i, Fits (hp i) w) (hs : ∀ i j, i ≠ j → Sep (hp i) (hp j)) (s : Split (hp a) ha r) : ∀ i j, i ≠ j → Sep (give hp a b ha r i) (give hp a b ha r j) := by
  have ss : Sep ha r := s.sep (hf a)
  have kab : Sep ha ((hp b).join r) := (sep_join (s.frz1.sep (hs a b hab)).symm ss.symm).symm
  have key : ∀ i, i ≠ a → i ≠ b → Sep ha (hp i) ∧ Sep ((hp b).join r) (hp i) := fun i h1 h2 => ⟨s.frz1.sep (hs a i fun e => h1 e.symm), sep_join (hs b i fun e => h2 e.symm) (s.frz2.sep (hs a i fun e => h1 e.symm))⟩
  intro i j hij
  by_cases i1 : i = a
  · subst i1
    rw [give_a hab]
    by_cases j2 : j = b
    · subst j2; rw [give_b]; exact kab
    · rw [give_ne (fun e => hij e.symm) j2]; exact (key j (fun e => hij e.symm) j2).1
  · by_cases i2 : i = b
    · subst i2
      rw [give_b]
      by_cases j1 : j = a
      · subst j1; rw [give_a hab]; exact kab.symm
      · rw [give_ne j1 fun e => hij e.symm]; exact (key j j1 fun e => hij e.symm).2
    · rw [give_ne i1 i2]
      by_cases j1 : j = a
      · subst j1; rw [give_a hab]; exact (key i i1 i2).1.symm
      · by_cases j2 : j = b
        · subst j2; rw [give_b]; exact (key i i1 i2).2.symm
        · rw [give_ne j1 j2]; exact hs _ _ hij

theorem give_fits (hab : a ≠ b) (hf : ∀ i, Fits (hp i) w) (hs : ∀ i j, i ≠ j → Sep (hp i) (hp j)) (s : Split (hp a) ha r) : ∀ i, Fits (give hp a b ha r i) w := by
  intro i
  by_cases i1 : i = a
  · subst i1; rw [give_a hab]; exact s.frz1.fits (hf i)
  · by_cases i2 : i = b
    · subst i2; rw [give_b]; exact fits_join (hf i) (s.frz2.fits (hf a)) (s.frz2.sep (hs a i hab)).symm
    · rw [give_ne i1 i2]; exact hf i

theorem give_obj (hab : a ≠ b) (s : Split (hp a) ha r) {x : Nat} (h : ∀ i, (hp i).obj x = none) : ∀ i, (give hp a b ha r i).obj x = none := by
  intro i
  have h1 : ha.obj x = none := none_of fun v e => by have := s.b1 _ _ e; rw [h a] at this; cases this
  have h2 : r.obj x = none := none_of fun v e => by have := s.b2 _ _ e; rw [h a] at this; cases this
  by_cases i1 : i = a
  · subst i1; rw [give_a hab]; exact h1
  · by_cases i2 : i = b
    · subst i2; rw [give_b]; simp [Hp.join, h i, h2]
    · rw [give_ne i1 i2]; exact h i
theorem give_own (hab : a ≠ b) (s : Split (hp a) ha r) {x o : Nat} (h : ∀ i, (hp i).own x o = none ∧ (hp i).ro x o = none) : ∀ i, (give hp a b ha r i).own x o = none ∧ (give hp a b ha r i).ro x o = none := by
  intro i
  have h1 : ha.own x o = none := none_of fun v e => by have := s.o1 _ _ _ e; rw [(h a).1] at this; cases this
  have h2 : r.own x o = none := none_of fun v e => by have := s.o2 _ _ _ e; rw [(h a).1] at this; cases this
  have h3 : ha.ro x o = none := none_of fun v e => by have := s.r1 _ _ _ e; rw [(h a).2] at this; cases this
  have h4 : r.ro x o = none := none_of fun v e => by have := s.r2 _ _ _ e; rw [(h a).2] at this; cases this
  by_cases i1 : i = a
  · subst i1; rw [give_a hab]; exact ⟨h1, h3⟩
  · by_cases i2 : i = b
    · subst i2; rw [give_b]; simp [Hp.join, (h i).1, (h i).2, h2, h4]
    · rw [give_ne i1 i2]; exact h i
end

theorem phOk_left {g : Game} {l l' : Nat} {st : SeatSt g.σ g.θ} {ph : Ph g.σ g.θ} (p : PhOk l st ph) (h : l' ≤ l) : PhOk l' st ph := by
  cases p with
  | run h1 => exact .run (Nat.le_trans h h1)
  | said h1 hp => exact .said (Nat.le_trans h h1) hp
  | over hp => exact .over hp
  | shutS hp => exact .shutS hp
  | shutO => exact .shutO
  | shutC => exact .shutC

theorem seatAt_left {X : GX} {tk : Option X.g.σ} {lf : Nat} {ss : List (St X)} {c : St X} {h : Hp} {s : Slot P cv L} (hl : lf ≤ X.left) (k : SeatAt X c h s) : SeatAt { X with tok := tk, left := lf, seats := ss } c h s := by
  cases s with
  | act n => obtain ⟨ph, e, p⟩ := k; exact ⟨ph, e, phOk_left p hl⟩
  | out a b => exact k

theorem WgPh.seats {X : GX} {tk : Option X.g.σ} {lf : Nat} {ss : List (St X)} {st : List Nat} {w w' : World} (hl : ss.length = X.seats.length) (p : WgPh L X st w) (h : ∀ a b, WgAt L.tWg X.wg w a b → WgAt L.tWg X.wg w' a b) : WgPh L { X with tok := tk, left := lf, seats := ss } st w' := by
  cases p with
  | quiet v wt a hv late hw park b => exact .quiet v wt (h _ _ a) (by simpa only [hl] using hv) late hw park b
  | late p i k hi hk a oth => exact .late p i k hi hk (h _ _ a) oth
  | late1 p i hi a oth => exact .late1 p i hi (h _ _ a) oth
  | free p a oth => exact .free p (h _ _ a) oth

theorem seats_set {X : GX} {j k : Nat} {cx c : St X} {st' : SeatSt X.g.σ X.g.θ} (hj : X.seats[j]? = some cx) (h : (X.seats.set j { cx with st := st' })[k]? = some c) : (k = j ∧ c = { cx with st := st' }) ∨ (k ≠ j ∧ X.seats[k]? = some c) := by
  by_cases e : k = j
  · subst e
    rw [List.getElem?_set_self (List.getElem?_eq_some_iff.1 hj).1] at h
    cases h; exact .inl ⟨rfl, rfl⟩
  · rw [List.getElem?_set_ne fun h => e h.symm] at h
    exact .inr ⟨e, h⟩
theorem seats_old {X : GX} {j k : Nat} {cx c : St X} {st' : SeatSt X.g.σ X.g.θ} (hj : X.seats[j]? = some cx) (h : (X.seats.set j { cx with st := st' })[k]? = some c) : ∃ c0 : St X, X.seats[k]? = some c0 ∧ ∀ a, c.ch a = c0.ch a := by
  rcases seats_set hj h with ⟨rfl, rfl⟩ | ⟨_, h⟩
  · exact ⟨cx, hj, fun a => by unfold Seat.ch; split <;> rfl⟩
  · exact ⟨c, h, fun a => rfl⟩
theorem ch_st {X : GX} {cx : St X} {st' : SeatSt X.g.σ X.g.θ} {a : Nat} : ({ cx with st := st' } : St X).ch a = cx.ch a := by unfold Seat.ch; split <;> rfl

/-- A MEETING: giver a, taker b -/
theorem Cfg.met {gs gs' : Array Goroutine} {w w' : World} {t : Trace} {M M' : MN P cv L Em} {sl : List (Slot P cv L)} {hp : Nat → Hp} {X : GX} {nb j : Nat} {cx : St X} {n n' : TN P cv L} {a b c0 kc : Nat} {ha r : Hp} {fa fb : FuncId} {pa pb : String}
    {st' : SeatSt X.g.σ X.g.θ} {tk : Option X.g.σ} {lf : Nat} {ph' : Ph X.g.σ X.g.θ}
    (c : Cfg W0 gs w t M sl hp) (hX : M.x = .game X) (hG : GameAt X gs w t sl hp nb) (hj : X.seats[j]? = some cx) (hs : sl[nb + j]? = some (.act n)) (hab : (a = 0 ∧ b = nb + j + 1) ∨ (a = nb + j + 1 ∧ b = 0))
    (hsz : gs'.size = gs.size) (h0 : ∃ g, gs'[0]? = some g ∧ Runs g M'.fr M'.cs) (h1 : ∃ g, gs'[nb + j + 1]? = some g ∧ Runs g n'.fr n'.cs) (ho : ∀ i, i ≠ 0 → i ≠ nb + j + 1 → gs'[i]? = gs[i]?)
    (hc0 : c0 < 3) (hc : w.heap[cx.ch c0]? = some (.chan 0 #[] false kc kc false)) (hw : w'.heap = w.heap.setIfInBounds (cx.ch c0) (.chan 0 #[] false (kc + 1) (kc + 1) false)) (hos : w'.os = w.os ∧ w'.tape = w.tape ∧ w'.output = w.output) (sp : Split (hp a) ha r)
    (hx : M'.x = .game { X with tok := tk, left := lf, seats := X.seats.set j { cx with st := st' } }) (hM : M'.h = give hp a b ha r 0) (hn : n'.h = give hp a b ha r (nb + j + 1))
    (hsh : st'.isShut = false) (hs0 : cx.st.isShut = false) (sa : n'.x = ⟨X.g, cx.says, cx.turn, cx.fin, X.wg, ph'⟩) (pk : PhOk lf st' ph') (hl : lf ≤ X.left)
    (t0 : tk = none → st'.isRun = true) (t1 : tk.isSome = true → st'.isRun = false) (to : ∀ (j' : Nat) (c' : St X), X.seats[j']? = some c' → j' ≠ j → c'.st.isRun = false)
    (hwt : X.wt = .play) (had : X.ad = X.seats.length) (hdf : X.deaf = false) :
    Cfg W0 gs' w' (t ++ meet a b fa pa fb pb (cx.ch c0) kc) M' (sl.set (nb + j) (.act n')) (give hp a b ha r) := by
  have hlt : nb + j < sl.length := (List.getElem?_eq_some_iff.1 hs).1
  have hne : a ≠ b := by rcases hab with h | h <;> omega
  have hin : a ≤ sl.length ∧ b ≤ sl.length := by rcases hab with h | h <;> omega
  obtain ⟨p1, p2, e1⟩ := hG.wg.ex
  have hwgne : cx.ch c0 ≠ X.wg := fun e => by obtain ⟨_, e1, _⟩ := e1; rw [e] at hc; rw [hc] at e1; cases e1
  have hwg : ∀ x y, WgAt L.tWg X.wg w x y → WgAt L.tWg X.wg w' x y := fun x y h => by
    exact h.of_heap (by rw [hw, Array.getElem?_setIfInBounds_ne hwgne])
  have hrl : RL L.tWg X.wg w w' := fun ⟨x, y, h⟩ => ⟨x, y, hwg _ _ h⟩
  have hd0 : Deaf t 0 = 0 := by rw [hG.deaf, hdf]; rfl
  have hkj := hG.know j _ hs
  have hdj : Deaf t (nb + j + 1) = 0 := hkj.2.2
  have hda : Deaf t a = 0 := by rcases hab with ⟨rfl, _⟩ | ⟨rfl, _⟩ <;> assumption
  have hdb : Deaf t b = 0 := by rcases hab with ⟨_, rfl⟩ | ⟨_, rfl⟩ <;> assumption
  have hka : Kn t (Knows t a) (hp a) := by
    rcases hab with ⟨rfl, _⟩ | ⟨rfl, _⟩
    · exact c.kn0
    · exact hkj.1
  have hkb : Kn t (Knows t b) (hp b) := by
    rcases hab with ⟨_, rfl⟩ | ⟨_, rfl⟩
    · exact hkj.1
    · exact c.kn0
  obtain ⟨u, hu⟩ : ∃ u, u = meet a b fa pa fb pb (cx.ch c0) kc := ⟨_, rfl⟩
  have hum : ∀ op ∈ u, op.act.touch? = none := by rw [hu]; exact meet_mute
  have hur : ∀ op ∈ u, ∀ x, op.act ≠ .mark (.release x) := by rw [hu]; exact meet_norel
  have hug : ∀ op ∈ u, op.g = a ∨ op.g = b := by rw [hu]; exact meet_g
  have hup : ∀ op ∈ u, Plain op := by rw [hu]; exact meet_plain
  have hknow : ∀ i, Knows t a i → Knows (t ++ u) b i := fun i h => by rw [hu]; exact meet_knows hda hdb h
  rw [← hu]
  clear hu
  have hng : ∀ i, i ≠ 0 → i ≠ nb + j + 1 → ∀ op ∈ u, op.g ≠ i := fun i h1 h2 op ho e => by rcases hug op ho with h | h <;> rcases hab with h' | h' <;> omega
  have hfit := give_fits hne c.mem.fits c.mem.sep sp
  have hobj : ∀ (k : Nat) (cx' : St X) (d : Nat), X.seats[k]? = some cx' → d < 3 → ∀ i, (give hp a b ha r i).obj (cx'.ch d) = none := fun k cx' d hk hd => give_obj hne sp fun i => hG.noch i k cx' d hk hd
  have hkna : Kn (t ++ u) (Knows (t ++ u) a) (give hp a b ha r a) := by rw [give_a hne]; exact kn_mute (sp.frz1.kn hka) (fun i h => h.app u) hum
  have hknb : Kn (t ++ u) (Knows (t ++ u) b) (give hp a b ha r b) := by rw [give_b]; exact kn_join (kn_mute hkb (fun i h => h.app u) hum) (kn_mute (sp.frz2.kn hka) hknow hum)
  have hgn : ∀ i, i ≠ 0 → i ≠ nb + j + 1 → give hp a b ha r i = hp i := fun i h1 h2 => by rcases hab with h | h <;> exact give_ne (by omega) (by omega)
  have haft : Aft W0 w' (give hp a b ha r) M'.x := by
    have hg := c.aft.game
    rw [hX] at hg
    have h1 := c.aft.at_block (c := cx.ch c0) (w' := w') (hg.2 j cx c0 hj) (side_chan hc rfl hos.1 hos.2.1 hos.2.2 hw) (fun b hb => by rw [hw, Array.getElem?_setIfInBounds_ne fun e => hb e.symm]) (by rw [hw]; simp) c.aft.game
    refine h1.parts' (fun i b' o v e => ?_) (fun i b' v e => ?_) ?_
    · by_cases i1 : i = a
      · subst i1; rw [give_a hne] at e; exact ⟨i, sp.o1 _ _ _ e⟩
      · by_cases i2 : i = b
        · subst i2; rw [give_b] at e
          rcases or_some e with e | ⟨_, e⟩
          · exact ⟨i, e⟩
          · exact ⟨a, sp.o2 _ _ _ e⟩
        · rw [give_ne i1 i2] at e; exact ⟨i, e⟩
    · by_cases i1 : i = a
      · subst i1; rw [give_a hne] at e; exact ⟨i, sp.b1 _ _ e⟩
      · by_cases i2 : i = b
        · subst i2; rw [give_b] at e
          rcases or_some e with e | ⟨_, e⟩
          · exact ⟨i, e⟩
          · exact ⟨a, sp.b2 _ _ e⟩
        · rw [give_ne i1 i2] at e; exact ⟨i, e⟩
    · rw [hx]
      refine ⟨hg.1, fun k c' d hk => ?_⟩
      obtain ⟨c1, h1, e1⟩ := seats_old hj hk
      rw [e1]; exact hg.2 k c1 d h1
  refine ⟨by rw [hsz, List.length_set]; exact c.size, ?_, fun i sx hi => ?_, ?_, haft, hM.symm, fun i hi => ?_, fun i op hi => ?_, ?_, ?_⟩
  · obtain ⟨g, h1, h2⟩ := h0
    exact ⟨g, h1, .inl h2⟩
  · rw [hx]
    by_cases hij : i = nb + j
    · subst hij
      simp [hlt] at hi
      subst hi
      obtain ⟨g, h1, h2⟩ := h1
      exact ⟨g, h1, .inl h2⟩
    · rw [List.getElem?_set_ne fun e => hij e.symm] at hi
      obtain ⟨g, h1, h2⟩ := c.thr i sx hi
      rw [hX] at h2
      exact ⟨g, by rw [ho (i + 1) (by omega) (by omega)]; exact h1, slot_rely (Deaf_others (hng _ (by omega) (by omega))) hrl h2⟩
  · have hnch : ∀ i, (give hp a b ha r i).obj (cx.ch c0) = none := hobj j cx c0 hj hc0
    exact ⟨fun i => fits_chan (n := 0) (n' := 0) (hfit i) (hnch i) hc rfl rfl hw, give_sep hne c.mem.fits c.mem.sep sp, fun said => race_mute (c.mem.nr said) hum, (low_mute c.mem.low hum).mono (by rw [hw]; simp),
      fun op ho x => (Array.mem_append.1 ho).elim (fun ho => c.mem.norel op ho x) (fun ho => hur op ho x)⟩
  · rw [List.length_set] at hi
    rw [hgn i (by omega) (by omega)]; exact c.hpn i hi
  · rw [List.length_set]
    rcases getElem?_append_cases hi with ⟨_, h⟩ | ⟨_, h⟩
    · exact c.tg i op h
    · rcases hug op h with h | h <;> omega
  · rcases hab with ⟨rfl, _⟩ | ⟨_, rfl⟩
    · exact hkna
    · exact hknb
  · rw [hx]
    have hstg : (sl.set (nb + j) (.act n')).map Slot.stage = sl.map Slot.stage := by
      apply List.ext_getElem?
      intro k
      rw [List.getElem?_map, List.getElem?_map]
      by_cases hki : nb + j = k
      · subst hki; rw [List.getElem?_set_self hlt, hs]; rfl
      · rw [List.getElem?_set_ne hki]
    have hknj : Kn (t ++ u) (Knows (t ++ u) (nb + j + 1)) (give hp a b ha r (nb + j + 1)) := by
      rcases hab with ⟨_, rfl⟩ | ⟨rfl, _⟩
      · exact hknb
      · exact hkna
    refine ⟨nb, ⟨by rw [List.length_set]; simpa using hG.len, fun k sx hk hc => ?_, fun k cx' hc => ?_, fun k sx hc => ?_, fun k cx' hc' d hd => ?_, fun k k' d d' x x' hk hk' hx hx' e => ?_, fun i k cx' d hk hd => ?_, fun i o => ?_, by rw [hstg]; exact hG.wg.seats (by simp) hwg, fun k x o ho2 hb hl => ?_, ?_, fun e => ?_, fun e k cx' hk => ?_, fun _ => .inl (by simpa using had), fun h => absurd hwt h, hG.adl, fun k cx' g hk hg hsx hb => ?_, fun g0 cases shp hg hb ho' => ?_, fun g0 hg hb ho' => ?_, fun k cx' d i x hk hd hx hl => ?_⟩⟩
    · rw [List.getElem?_set_ne (by omega)] at hc
      rw [hgn _ (by omega) (by omega)]
      exact (hG.old k sx hk hc).app (hng _ (by omega) (by omega))
    · rcases seats_set hj hc with ⟨rfl, rfl⟩ | ⟨hk, hc⟩
      · exact ⟨_, List.getElem?_set_self hlt, ph', sa, pk⟩
      · obtain ⟨sx, h1, h2⟩ := hG.seat k cx' hc
        refine ⟨sx, by rw [List.getElem?_set_ne (by omega)]; exact h1, ?_⟩
        rw [hgn _ (by omega) (by omega)]
        exact seatAt_left hl h2
    · by_cases hkj : k = j
      · subst hkj
        simp [hlt] at hc
        subst hc
        exact ⟨hknj, hn, by rw [Deaf_plain hup]; exact hdj⟩
      · rw [List.getElem?_set_ne (by omega)] at hc
        rw [hgn _ (by omega) (by omega)]
        exact (hG.know k sx hc).app (hng _ (by omega) (by omega)) fun kk hK => kn_mute kk hK hum
    · obtain ⟨cq, hcq, hch⟩ := seats_old hj hc'
      rw [hch d]
      by_cases e : cq.ch d = cx.ch c0
      · obtain ⟨rfl, rfl⟩ := hG.dist k j cq cx d c0 hcq hj hd hc0 e
        rcases seats_set hj hc' with ⟨_, rfl⟩ | ⟨h, _⟩
        · refine ⟨kc + 1, ?_⟩
          rw [e, hw, Array.getElem?_setIfInBounds_self_of_lt (Array.getElem?_eq_some_iff.1 hc).1]
          show _ = some (Obj.chan 0 #[] (decide (d = 2) && st'.isShut) _ _ _)
          rw [hsh, Bool.and_false]
        · exact absurd rfl h
      · obtain ⟨m, hm⟩ := hG.chan k cq hcq d hd
        refine ⟨m, ?_⟩
        rw [hw, Array.getElem?_setIfInBounds_ne fun h => e h.symm]
        rcases seats_set hj hc' with ⟨rfl, rfl⟩ | ⟨_, h⟩
        · rw [hj] at hcq; cases hcq
          show _ = some (Obj.chan 0 #[] (decide (d = 2) && st'.isShut) _ _ _)
          rw [hm, hsh, hs0]
        · rw [hcq] at h; cases h; exact hm
    · obtain ⟨c1, h1, e1⟩ := seats_old hj hk
      obtain ⟨c2, h2, e2⟩ := seats_old hj hk'
      rw [e1, e2] at e
      exact hG.dist k k' c1 c2 x x' h1 h2 hx hx' e
    · obtain ⟨c1, h1, e1⟩ := seats_old hj hk
      rw [e1]; exact hobj k c1 d h1 hd i
    · exact give_own hne sp (fun i => hG.nowg i o) i
    · rcases touch_split hb with hb | ⟨op, ho, hi, h2⟩
      · rcases hG.wgt k x o ho2 hb hl with this | ⟨k0, k1⟩
        · refine .inl ⟨this.1, fun hsd => ?_⟩
          have h1 := this.2 hsd
          rw [g?_app (g?_lt h1)]; exact h1
        · exact .inr ⟨k0.app u, fun j' c hj' => by obtain ⟨c1, h1, _⟩ := seats_old hj hj'; exact (k1 j' c1 h1).app u⟩
      · rw [hum op ho] at h2; cases h2
    · rw [Deaf_plain hup, hdf]; exact hd0
    · refine ⟨j, _, List.getElem?_set_self (List.getElem?_eq_some_iff.1 hj).1, t0 e, fun j' c' h' hne' => ?_⟩
      rcases seats_set hj h' with ⟨h, _⟩ | ⟨_, h⟩
      · exact absurd h hne'
      · exact to j' c' h hne'
    · rcases seats_set hj hk with ⟨rfl, rfl⟩ | ⟨h, hk⟩
      · exact t1 e
      · exact to k cx' hk h
    · rcases seats_set hj hk with ⟨rfl, rfl⟩ | ⟨h, hk⟩
      · replace hsx : st'.isShut = true := hsx
        rw [hsh] at hsx; cases hsx
      · rw [ho _ (by omega) (by omega)] at hg
        exact hG.live k cx' g hk hg hsx hb
    · obtain ⟨g, h1, h2⟩ := h0
      rw [h1] at hg; cases hg
      rw [h2.status] at hb; cases hb
    · obtain ⟨g, h1, h2⟩ := h0
      rw [h1] at hg; cases hg
      rw [h2.status] at hb; cases hb
    · obtain ⟨c1, h1, e1⟩ := seats_old hj hk
      rw [e1] at hl
      rcases touch_split hx with hx | ⟨op, ho, hi, h2⟩
      · exact (hG.cht k c1 d i x h1 hd hx hl).app u
      · rw [hum op ho] at h2; cases h2
end Go.PB
/-
  ALL GOROUTINES OF A GAME: one that waits ('Cfg.stall0', 'Cfg.stall1'); how many run ('nrun'). Of any program that holds the library's functions.
-/
set_option linter.unusedVariables false
set_option linter.unusedSimpArgs false
namespace Go.PB
open Go.Conc Go.Conc.Lib
open Go.ConcR (KK stA smA rd wr mk DC0)

variable {W0 : World} {P : Program} {cv : Value} {L : WgLink} {Em : Frame → List Frame → Hp → MX → Prop}

/- ---- how many run ---- -/
def isRunning (g : Goroutine) : Nat := match g.status with
  | .running => 1
  | _ => 0
def nrun (gs : Array Goroutine) : Nat := (gs.toList.map isRunning).sum

theorem sum_set {l : List Nat} : ∀ {i a b : Nat}, l[i]? = some a → b < a → (l.set i b).sum < l.sum := by
  induction l with
  | nil => intro i a b h; simp at h
  | cons x l ih =>
    intro i a b h hb
    cases i with
    | zero => simp at h; subst h; simp; exact hb
    | succ i =>
      have := ih (i := i) (by simpa using h) hb
      simp; exact this
theorem nrun_set {gs : Array Goroutine} {i : Nat} {g g' : Goroutine} (h : gs[i]? = some g) (hr : g.status = .running) (hb : g'.status = .blocked) : nrun (gs.setIfInBounds i g') < nrun gs := by
  have e : (gs.setIfInBounds i g').toList.map isRunning = (gs.toList.map isRunning).set i (isRunning g') := by simp [Array.toList_setIfInBounds, List.map_set]
  unfold nrun
  rw [e]
  refine sum_set (a := isRunning g) (by simp [h]) ?_
  unfold isRunning
  rw [hr, hb]; decide

theorem res_says {a b : Nat} {v z1 z2 : Value} : commResult #[scase a v z1, rcase b z2] .select ((0 : Nat) : Int) undef false = .tuple #[goInt 0, .bool false, z2] := by
  simp [commResult, scase, rcase]
theorem res_turn {a b : Nat} {v z1 z2 : Value} : commResult #[rcase a z1, rcase b z2] .select ((0 : Nat) : Int) v true = .tuple #[goInt 0, .bool true, v, z2] := by
  simp [commResult, scase, rcase]
theorem res_cut {a b : Nat} {z1 z2 : Value} : commResult #[rcase a z1, rcase b z2] .select ((1 : Nat) : Int) z2 false = .tuple #[goInt 1, .bool false, z1, z2] := by
  simp [commResult, scase, rcase]

section
variable {gs : Array Goroutine} {w : World} {t : Trace} {M : MN P cv L Em} {sl : List (Slot P cv L)} {hp : Nat → Hp} {X : GX} {nb j : Nat}

/-- the starter waits -/
theorem Cfg.stall0 (c : Cfg W0 gs w t M sl hp) (hX : M.x = .game X) (hG : GameAt X gs w t sl hp nb) {gp : Goroutine} {cases : Array CommCase} {sh : CommShape} (hm : MainG gp M) (ho : gp.offers = some (cases, sh)) {cx : St X} (hj : X.seats[j]? = some cx) (hwt : X.wt = .play)
    (hc : (∃ z, cases = #[rcase cx.says z]) ∨ (∃ v z, cases = #[scase cx.turn v z])) (hn : ∀ (g : Goroutine), gs[nb + j + 1]? = some g → g.status ≠ .blocked) : Cfg W0 (gs.setIfInBounds 0 gp) w t M sl hp := by
  have hlt : 0 < gs.size := by have := c.size; omega
  have hoth : ∀ i, i ≠ 0 → (gs.setIfInBounds 0 gp)[i]? = gs[i]? := fun i hi => Array.getElem?_setIfInBounds_ne fun e => hi e.symm
  have hself : (gs.setIfInBounds 0 gp)[0]? = some gp := Array.getElem?_setIfInBounds_self_of_lt hlt
  refine ⟨by rw [Array.size_setIfInBounds]; exact c.size, ⟨gp, hself, hm⟩, fun i sx hi => by rw [hoth _ (by omega)]; exact c.thr i sx hi, c.mem, c.aft, c.hp0, c.hpn, c.tg, c.kn0, ?_⟩
  rw [hX]
  refine ⟨nb, ⟨hG.len, hG.old, hG.seat, hG.know, hG.chan, hG.dist, hG.noch, hG.nowg, hG.wg, hG.wgt, hG.deaf, hG.tok0, hG.tok1, hG.adp, hG.ads, hG.adl, fun k cx g hk hg => by rw [hoth _ (by omega)] at hg; exact hG.live k cx g hk hg, fun g0 cases' shp hg hb ho' => ?_, fun g0 hg hb ho' => ?_, hG.cht⟩⟩
  · rw [hself] at hg; cases hg
    rw [ho] at ho'; cases ho'
    exact ⟨j, cx, hj, hwt, hc, fun g hg => by rw [hoth _ (by omega)] at hg; exact hn g hg⟩
  · rw [hself] at hg; cases hg
    rw [ho] at ho'; cases ho'

/-- a thread waits -/
theorem Cfg.stall1 (c : Cfg W0 gs w t M sl hp) (hX : M.x = .game X) (hG : GameAt X gs w t sl hp nb) {gp : Goroutine} {s : Slot P cv L} (hs : sl[nb + j]? = some s) (hsg : SlotG w X.wg (Deaf t (nb + j + 1)) gp s) {cx : St X} (hj : X.seats[j]? = some cx) (hsh : cx.st.isShut = false)
    (hn : ∀ (g0 : Goroutine) (cases : Array CommCase) (sh : CommShape), gs[0]? = some g0 → g0.status = .blocked → g0.offers = some (cases, sh) → (∀ z, cases ≠ #[rcase cx.says z]) ∧ ∀ v z, cases ≠ #[scase cx.turn v z]) : Cfg W0 (gs.setIfInBounds (nb + j + 1) gp) w t M sl hp := by
  have hlt : nb + j < sl.length := (List.getElem?_eq_some_iff.1 hs).1
  have hlt' : nb + j + 1 < gs.size := by have := c.size; omega
  have hoth : ∀ i, i ≠ nb + j + 1 → (gs.setIfInBounds (nb + j + 1) gp)[i]? = gs[i]? := fun i hi => Array.getElem?_setIfInBounds_ne fun e => hi e.symm
  have hself : (gs.setIfInBounds (nb + j + 1) gp)[nb + j + 1]? = some gp := Array.getElem?_setIfInBounds_self_of_lt hlt'
  refine ⟨by rw [Array.size_setIfInBounds]; exact c.size, by rw [hoth 0 (by omega)]; exact c.main, fun i sx hi => ?_, c.mem, c.aft, c.hp0, c.hpn, c.tg, c.kn0, ?_⟩
  · by_cases e : i = nb + j
    · subst e
      rw [hs] at hi; cases hi
      rw [hX]
      exact ⟨gp, hself, hsg⟩
    · rw [hoth _ (by omega)]; exact c.thr i sx hi
  rw [hX]
  refine ⟨nb, ⟨hG.len, hG.old, hG.seat, hG.know, hG.chan, hG.dist, hG.noch, hG.nowg, hG.wg, hG.wgt, hG.deaf, hG.tok0, hG.tok1, hG.adp, hG.ads, hG.adl, fun k cx' g hk hg hsx => ?_, fun g0 cases' shp hg hb ho' => ?_, fun g0 hg hb ho' => ?_, hG.cht⟩⟩
  · by_cases e : k = j
    · subst e
      rw [hj] at hk; cases hk
      rw [hsh] at hsx; cases hsx
    · rw [hoth _ (by omega)] at hg; exact hG.live k cx' g hk hg hsx
  · rw [hoth 0 (by omega)] at hg
    obtain ⟨k, cx', h1, h2, h3, h4⟩ := hG.park g0 cases' shp hg hb ho'
    refine ⟨k, cx', h1, h2, h3, fun g hg2 => ?_⟩
    by_cases e : k = j
    · subst e
      rw [hj] at h1; cases h1
      have := hn g0 cases' shp hg hb ho'
      rcases h3 with ⟨z, h3⟩ | ⟨v, z, h3⟩
      · exact absurd h3 (this.1 z)
      · exact absurd h3 (this.2 v z)
    · rw [hoth _ (by omega)] at hg2; exact h4 g hg2
  · rw [hoth 0 (by omega)] at hg
    exact hG.sleep g0 hg hb ho'
end
end Go.PB
