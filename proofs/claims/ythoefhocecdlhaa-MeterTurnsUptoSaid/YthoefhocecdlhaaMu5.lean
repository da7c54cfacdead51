/-
  Part 5 of 7.
-/
import Derived.Test.YthoefhocecdlhaaMu4
import Derived.Test.YthoefhocecdlhaaMu2
import Derived.Test.YthoefhocecdlhaaMu3
import Derived.Conc.Holds
import Derived.JoinedCond
import Derived.Conc.WgGenN2
set_option linter.unusedVariables false
set_option linter.unusedSimpArgs false
namespace Go.Proofs.Ythoefhocecdlhaa
open Go Go.PB
attribute [local irreducible] Mo Bin Eql Tr Wo Ap Wle
section
def mgC (y:Nat × Nat):List Value:=[.int .u64 (y.1:Nat),.int .u64 (y.2:Nat)]
def mtPx (gb db k:Nat) (gr:List (Nat × Nat)) (good:Bool):HProp:=fun h=>∃ sv,all [arr gb k [sv],vec 2 sv (gr.map mgC).flatten,arr db k [.bool good]] h
def mtPv (gb db k:Nat) (gr:List (Nat × Nat)) (good:Bool):HProp:=all [mtPx gb db k gr good]
def mtG (gb db num den burst:Nat):WGm where
 σ:=Nat
 θ:=MtQ
 ζ:=Unit
 wf:=fun s _=>s
 zf:=fun _=>()
 Z:=fun _=>all []
 plan:=mtPlan num den burst
 ok:=fun _=>True
 Pv:=fun q=>mtPv gb db q.k q.gr q.good
 up:=fun q h st=>star_open (M:=[_]) st
section
variable {gb db k num den burst r sb says turn fin wg:Nat} {Pm:HProp} {gr:List (Nat × Nat)} {good:Bool} {last:Nat}
abbrev mtAcc (gb db num den burst r sb says turn fin wg:Nat) (Pm:HProp):Acc tH (gateV sb):=gamAcc (mtG gb db num den burst) (mAddr r) 1 (mK r num den burst) (m_apart r num den burst) sb says turn fin wg Pm
theorem mt_at (O:BOk num den burst):MeterAt (mtAcc gb db num den burst r sb says turn fin wg Pm) r num den burst:=⟨O,fun s i v hv=>rd_all (Rd.of .here (mC_rd i v hv)),rfl⟩
structure MtS (q:MtQ) (s:GaS (mtG gb db num den burst)):Prop where
 q:s.q=q
 f:s.f 0=(show Nat from s.s)
theorem mt_take {y:Nat × Nat} {rest:List (Nat × Nat)}:∀ (N:Nat) (s:GaS (mtG gb db num den burst)),s.n<N→MtS ⟨y::rest,good,last,gr,.tL,k⟩ s→MTakeT (mtAcc gb db num den burst r sb says turn fin wg (mtPv gb db k gr good)) num den burst y.1 y.2 s fun is s'=>MtS ⟨y::rest,good,last,gr,.sL is,k⟩ s':=by
 intro N s hN hs X hX
 revert s
 induction N with
 | zero=>intro s hN;omega
 | succ N ih =>
  intro s hN hs
  refine hX _ ?_
  unfold MTakeF
  refine ga_go (op:=1) (F:=(fun s=>match takeN num den burst s y.1 y.2 with
   | none=>(s,⟨y::rest,good,last,gr,.sL false,k⟩)
   | some _=>(s,⟨y::rest,good,last,gr,.tC s,k⟩):Nat→Nat × MtQ)) rfl (by rw [hs.q];rfl) (fun j hj=>(show j=0 by omega)▸hs.f) rfl (by rw [hs.q];exact fun h z=>z) fun (s':Nat) n hn hok=>⟨by omega,?_⟩
  show match takeN num den burst s' y.1 y.2 with | none=>_ | some t=>_
  cases hG:takeN num den burst s' y.1 y.2 with
  | none =>
   simp only [hG]
   exact ⟨rfl,rfl⟩
  | some z =>
   simp only [hG]
   refine ga_go (op:=5) (F:=(fun s=>if s=s' then ((takeN num den burst s' y.1 y.2).getD 0,⟨y::rest,good,last,gr,.sL true,k⟩) else (s,⟨y::rest,good,last,gr,.tL,k⟩):Nat→Nat × MtQ)) rfl rfl (fun j hj=>rfl) rfl (fun h z=>z) fun (s2:Nat) n2 hn2 hok2=>⟨by omega,?_⟩
   show if s2=s' then _ else _
   by_cases c3:s2=s'
   ·subst c3
    rw [if_pos rfl]
    show ite (true=true) _ _
    rw [if_pos rfl]
    simp only [if_true]
    refine ⟨rfl,?_⟩
    show upd ((mtG gb db num den burst).wf s2) 0 z 0=(takeN num den burst s2 y.1 y.2).getD 0
    rw [upd_same,hG];rfl
   ·rw [if_neg c3]
    simp only [if_neg c3]
    show ite (false=true) _ _
    rw [if_neg (by decide)]
    exact ih _ (by dsimp only at hn hn2 ⊢;omega) ⟨rfl,rfl⟩
theorem mt_state {y:Nat × Nat} {rest:List (Nat × Nat)} {is:Bool} {s:GaS (mtG gb db num den burst)} (hs:MtS ⟨y::rest,good,last,gr,.sL is,k⟩ s):MLoadT (mtAcc gb db num den burst r sb says turn fin wg (mtPv gb db k gr good)) s fun o s'=>MtS ⟨rest,good&&decide (last≤o),o,if is=true then gr++[y] else gr,.tL,k⟩ s':=by
 refine ga_go (op:=1) (F:=(fun s=>(s,⟨rest,good&&decide (last≤s),s,if is=true then gr++[y] else gr,.tL,k⟩):Nat→Nat × MtQ)) rfl (by rw [hs.q];rfl) (fun j hj=>(show j=0 by omega)▸hs.f) rfl (by rw [hs.q];exact fun h z=>z) fun s' n hn hok=>⟨by omega,rfl,rfl⟩
theorem mt_open {f:Nat→Nat} {c:Unit} {R:List HProp} {h:Hp} (st:Star (gaC (mtG gb db num den burst) (mAddr r) 1 (mK r num den burst) sb says turn fin (mtPv gb db k gr good) f c::R) h):Star ((fun h=>∃ sv:Value,all [arr gb k [sv],vec 2 sv (gr.map mgC).flatten,arr db k [.bool good]] h)::wds (mAddr r) 1 (mK r num den burst) f::seatR sb says turn fin::R) h:=by
 have s1:Star (wds (mAddr r) 1 (mK r num den burst) f::all []::seatR sb says turn fin::mtPv gb db k gr good::R) h:=star_open (M:=[_,_,_,_]) st
 have s2:Star (mtPv gb db k gr good::wds (mAddr r) 1 (mK r num den burst) f::seatR sb says turn fin::R) h:=Ent.star (.take (.there (.there (.there .here))) (.take .here (.drop (.take .here .refl)))) s1
 exact star_open (M:=[_]) s2
theorem mt_shut {f:Nat→Nat} {sv:Value} {R:List HProp} {h:Hp} (st:Star (arr gb k [sv]::vec 2 sv (gr.map mgC).flatten::arr db k [.bool good]::wds (mAddr r) 1 (mK r num den burst) f::seatR sb says turn fin::R) h):Star (gaC (mtG gb db num den burst) (mAddr r) 1 (mK r num den burst) sb says turn fin (mtPv gb db k gr good) f ()::R) h:=by
 have s1:Star (all [arr gb k [sv],vec 2 sv (gr.map mgC).flatten,arr db k [.bool good]]::wds (mAddr r) 1 (mK r num den burst) f::seatR sb says turn fin::R) h:=star_shut (M:=[_,_,_]) st
 have s2:Star (mtPx gb db k gr good::wds (mAddr r) 1 (mK r num den burst) f::seatR sb says turn fin::R) h:=star_map s1 (fun h z=>⟨sv,z⟩) fun _ z=>z
 have s3:Star (mtPv gb db k gr good::wds (mAddr r) 1 (mK r num den burst) f::seatR sb says turn fin::R) h:=star_shut (M:=[_]) s2
 have s4:Star (all []::mtPv gb db k gr good::wds (mAddr r) 1 (mK r num den burst) f::seatR sb says turn fin::R) h:=star_shut (M:=[]) s3
 exact star_shut (M:=[_,_,_,_]) (Ent.star (.take (.there (.there .here)) (.take .here (.take (.there .here) (.take .here .refl)))) s4)
end
structure MtRo (Ro:HProp) (g6 ib p8 mb g5 db gb qb qo nt qc k r:Nat) (a:Option Addr) (c:Nat) (l:List (Int × Nat × Nat)):Prop where
 h1:Rd [Ro] g6 0 (.slice (some ⟨db,0,none⟩) nt nt)
 h2:Rd [Ro] ib 0 (.int .i64 (k:Nat))
 h3:Rd [Ro] p8 0 (.slice (some ⟨qb,qo,none⟩) nt qc)
 h4:Rd [Ro] qb (qo+k) (.slice a l.length c)
 h5:∀ (i:Nat) y,l[i]?=some y→∃ b o,a=some ⟨b,o,none⟩∧Rds [Ro] b (o+3*i) [.int .i64 y.1,.int .u64 (y.2.1:Nat),.int .u64 (y.2.2:Nat)]
 h6:Rd [Ro] mb 0 (.pointer (some ⟨r,0,none⟩))
 h7:Rd [Ro] g5 0 (.slice (some ⟨gb,0,none⟩) nt nt)
 hk:k<nt
 hl:l.length≤12
 ok:∀ y∈l,y.2.1<18446744073709551616∧y.2.2<18446744073709551616
theorem rd_up2 {Ro:HProp} {F:List HProp} {b o:Nat} {v:Value} (h:Rd [Ro] b o v):∀ {c d:HProp},Rd (c::d::Ro::F) b o v:=fun {c d}=>.there (.there (Rd.of .here h))
def mtL (l:List (Int × Nat × Nat)):List (Nat × Nat):=l.map fun y=>(y.2.1%1099511627776,y.2.2%64)
def mtM0 (gb db k:Nat):HProp:=all [arr gb k [.slice none 0 0],arr db k [.bool false]]
abbrev mtF (g6 ib p8 mb g5:Nat):Value:=.func (.func 50) #[] #[.pointer (some ⟨g6,0,none⟩),.pointer (some ⟨ib,0,none⟩),.pointer (some ⟨p8,0,none⟩),.pointer (some ⟨mb,0,none⟩),.pointer (some ⟨g5,0,none⟩)]
section
variable {gb db k num den burst r:Nat}
def mtInv (gb db k num den burst r sb says turn fin wg g6 ib p8 mb g5:Nat) (l:List (Int × Nat × Nat)) (Ro:HProp) (F:List HProp):PB.Inv (Nat × Bool × Nat × List (Nat × Nat) × GaS (mtG gb db num den burst)) TX where
 e:=fun i=>[(0,gateV sb),(1,.pointer (some ⟨g6,0,none⟩)),(2,.pointer (some ⟨ib,0,none⟩)),(3,.pointer (some ⟨p8,0,none⟩)),(4,.pointer (some ⟨mb,0,none⟩)),(5,.pointer (some ⟨g5,0,none⟩)),(7,.int .u64 (i.2.2.1:Nat)),(8,.int .i64 (i.1:Nat))]
 L:=fun i=>gaC (mtG gb db num den burst) (mAddr r) 1 (mK r num den burst) sb says turn fin (mtPv gb db k i.2.2.2.1 i.2.1) i.2.2.2.2.f i.2.2.2.2.c::Ro::F
 x:=fun i=>tx ((mtG gb db num den burst).g (mAddr r) 1 (mK r num den burst)) says turn fin wg (.busy i.2.2.2.2.s i.2.2.2.2.q i.2.2.2.2.n)
 ok:=fun i=>i.1≤l.length∧i.2.2.2.1.length≤i.1∧MtS ⟨(mtL l).drop i.1,i.2.1,i.2.2.1,i.2.2.2.1,.tL,k⟩ i.2.2.2.2
def mtMid (gb db k num den burst r sb says turn fin wg g6 ib p8 mb g5 xb:Nat) (kind:Int) (now0 n0 now n:Nat) (is:Bool) (o i:Nat) (va:Option Addr) (vn vc:Nat) (gr:List (Nat × Nat)) (s2:GaS (mtG gb db num den burst)) (g2:Bool) (Ro:HProp) (F:List HProp):PB.Inv Bool TX where
 e:=fun _=>[(0,gateV sb),(1,.pointer (some ⟨g6,0,none⟩)),(2,.pointer (some ⟨ib,0,none⟩)),(3,.pointer (some ⟨p8,0,none⟩)),(4,.pointer (some ⟨mb,0,none⟩)),(5,.pointer (some ⟨g5,0,none⟩)),(8,.int .i64 (i:Nat)),(10,.int .u64 (now:Nat)),(11,.int .u64 (n:Nat)),(12,.bool is),(14,.int .u64 (o:Nat))]
 L:=fun g=>arr gb k [.slice va vn vc]::vec 2 (.slice va vn vc) (gr.map mgC).flatten::arr db k [.bool g]::wds (mAddr r) 1 (mK r num den burst) s2.f::seatR sb says turn fin::arr xb 0 [.int .i64 kind,.int .u64 (now0:Nat),.int .u64 (n0:Nat)]::Ro::F
 x:=fun _=>tx ((mtG gb db num den burst).g (mAddr r) 1 (mK r num den burst)) says turn fin wg (.busy s2.s s2.q s2.n)
 ok:=fun g=>g=g2
set_option maxHeartbeats 4000000 in
theorem mt_ok {g6 ib p8 mb g5 qb qo nt qc c:Nat} {a:Option Addr} {l:List (Int × Nat × Nat)} {Ro:HProp} (B:BOk num den burst) (O:MtRo Ro g6 ib p8 mb g5 db gb qb qo nt qc k r a c l) :
  ThrOk ((mtG gb db num den burst).g (mAddr r) 1 (mK r num den burst)) (fun s=>(s,(⟨mtL l,true,0,[],.tL,k⟩:MtQ))) (mtF g6 ib p8 mb g5) (all [Ro,mtM0 gb db k]) where
 run:=by
  refine ⟨_,_,_,rfl,inferInstance,fun sb says turn fin wg (s:Nat) m F hok=>?_⟩
  show Tr Try.prog tH _ [gateV sb,.pointer (some ⟨g6,0,none⟩),.pointer (some ⟨ib,0,none⟩),.pointer (some ⟨p8,0,none⟩),.pointer (some ⟨mb,0,none⟩),.pointer (some ⟨g5,0,none⟩)] _ (tx ((mtG gb db num den burst).g (mAddr r) 1 (mK r num den burst)) says turn fin wg (.busy s (⟨mtL l,true,0,[],.tL,k⟩:MtQ) m)) _
  refine tr_star (arr gb k [.slice none 0 0]::vec 2 (.slice none 0 0) []::arr db k [.bool false]::wds (mAddr r) 1 (mK r num den burst) (fun _=>s)::seatR sb says turn fin::Ro::F) (fun hp st=>?_) ?_
  ·have s1:Star (wds (mAddr r) 1 (mK r num den burst) (fun _=>s)::all []::seatR sb says turn fin::all [Ro,mtM0 gb db k]::F) hp:=star_open (M:=[_,_]) st
   have s2:Star (all [Ro,mtM0 gb db k]::wds (mAddr r) 1 (mK r num den burst) (fun _=>s)::seatR sb says turn fin::F) hp:=Ent.star (.take (.there (.there (.there .here))) (.take .here (.drop (.take .here .refl)))) s1
   have s3:Star (Ro::mtM0 gb db k::_) hp:=star_open (M:=[_,_]) s2
   have s4:Star (arr gb k [.slice none 0 0]::arr db k [.bool false]::_) hp:=star_open (M:=[_,_]) (star_swap s3)
   have s5:Star (vec 2 (.slice none 0 0) []::_) hp:=vec_nil s4
   exact Ent.star (.take (.there .here) (.take .here (.take .here (.take (.there .here) (.take (.there .here) (.take .here .refl)))))) s5
  refine tr_of_body Try.func50 rfl Try.ntmps50 (by simp) fun um Q _ hQ=>?_
  simp only [argE,Nat.zero_add,Nat.reduceAdd]
  have hkn:=O.hk
  have hl12:=O.hl
  repeat (first | (apply wo_po;apply mo_index1;exact rfl;exact rfl;omega;exact trivial) | (apply wo_po;apply mo_load;exact rfl;(first | exact Rd.of (.there (.there (.there (.there (.there .here))))) O.h1 | exact Rd.of (.there (.there (.there (.there (.there .here))))) O.h2);exact trivial) | (apply wo_pm;apply mo_store;exact rfl;exact rfl;exact rfl;apply Wt.row (k:=0) (o:=k) (vs:=[.bool false]);exact Nat.lt_succ_self 0;omega;exact (.there (.there .here));exact trivial) | refine we_seq ?_ | (refine wR ?_;try simp only [oS]) | refine wo_nil ?_ | refine wA ?_ | refine we_block ?_)
  refine we_star ((mtInv gb db k num den burst r sb says turn fin wg g6 ib p8 mb g5 l Ro F).L (0,true,0,[],⟨fun _=>s,(),s,(⟨mtL l,true,0,[],.tL,k⟩:MtQ),m⟩)) (fun hp st=>?_) ?_
  ·exact mt_shut (gr:=[]) (good:=true) st
  refine we_loopN (mtInv gb db k num den burst r sb says turn fin wg g6 ib p8 mb g5 l Ro F) (fun i=>l.length-i.1) (0,true,0,[],⟨fun _=>s,(),s,(⟨mtL l,true,0,[],.tL,k⟩:MtQ),m⟩) ⟨Nat.zero_le _,Nat.le_refl _,rfl,rfl⟩ ⟨rfl,rfl,rfl,rfl,rfl,rfl,rfl,rfl,trivial⟩ .refl rfl ?_
  rintro ⟨i,good,last,gr,s⟩ ⟨hi,hgr,hs⟩
  dsimp only at hi hgr hs
  simp only [mtInv]
  have q1:∀ {c:HProp},Rd (c::Ro::F) p8 0 (.slice (some ⟨qb,qo,none⟩) nt qc):=fun {c}=>.there (Rd.of .here O.h3)
  have q2:∀ {c':HProp},Rd (c'::Ro::F) qb (qo+k) (.slice a l.length c):=fun {c}=>.there (Rd.of .here O.h4)
  have q4:∀ {c:HProp},Rd (c::Ro::F) ib 0 (.int .i64 (k:Nat)):=fun {c}=>.there (Rd.of .here O.h2)
  by_cases hlt:i<l.length
  ·obtain ⟨y,hy⟩:∃ y,l[i]?=some y:=⟨l[i],List.getElem?_eq_getElem hlt⟩
   obtain ⟨b3,o3,rfl,r3⟩:=O.h5 i y hy
   obtain ⟨hy1,hy2⟩:=O.ok y (List.mem_of_getElem? hy)
   obtain ⟨kind,now0,n0⟩:=y
   simp only at hy1 hy2 r3
   have q3:∀ {c:HProp},Rds (c::Ro::F) b3 (o3+3*i) [.int .i64 kind,.int .u64 (now0:Nat),.int .u64 (n0:Nat)]:=fun {c} j v hj=>.there (Rd.of .here (r3 j v hj))
   obtain ⟨now,hnow⟩:∃ now,now0%1099511627776=now:=⟨_,rfl⟩
   obtain ⟨n,hn⟩:∃ n,n0%64=n:=⟨_,rfl⟩
   have hrem:(now0:Int).tmod 1099511627776=((now:Nat):Int):=by rw [Int.tmod_eq_emod_of_nonneg (by omega)];omega
   have hrem2:(n0:Int).tmod 64=((n:Nat):Int):=by rw [Int.tmod_eq_emod_of_nonneg (by omega)];omega
   have hml:(mtL l).drop i=(now,n)::(mtL l).drop (i+1):=by
    rw [List.drop_eq_getElem_cons (by simp [mtL];omega)]
    congr 1
    have:(mtL l)[i]?=some (now,n):=by simp only [mtL,List.getElem?_map,hy,Option.map_some,hnow,hn]
    exact (List.getElem?_eq_some_iff.1 this).2
   rw [hml] at hs
   repeat (first | (apply wo_po;apply mo_index1;exact rfl;exact rfl;omega;exact trivial) | (apply wo_po;apply mo_indexAddr (r:=o3+3*i);exact rfl;exact rfl;omega;omega;omega;exact trivial) | (apply wo_po;apply mo_load;exact rfl;(first | exact q1 | exact q2 | exact q4);exact trivial) | (apply wo_po;apply mo_loadA (vs:=[.int .i64 kind,.int .u64 (now0:Nat),.int .u64 (n0:Nat)]);exact rfl;exact rfl;exact q3;exact trivial) | (apply wo_mo;apply mo_alloc;exact trivial) | refine wlssT ?_ | refine we_seq ?_ | (refine wR ?_;try simp only [oS]) | refine wo_nil ?_ | refine wM ?_ | refine wE ?_ | refine wT ?_ | refine we_skip ?_ | refine we_block ?_)
   rintro v' L' ⟨xb,rfl,rfl⟩
   repeat (first | (apply wo_pm;apply mo_storeA (c:=0) (k:=0) (a:=0) (vs:=[.int .i64 0,.int .u64 0,.int .u64 0]);exact rfl;exact rfl;exact rfl;(intro w hw;simp [Value.cells] at hw;rcases hw with rfl | rfl | rfl <;> rfl);exact rfl;exact Nat.le_refl 3;exact .here;exact trivial) | (apply wo_po;apply mo_bin;exact rfl;exact rfl;apply bin_rem;omega;(first | exact hrem | exact hrem2);exact trivial) | (apply wo_po;apply mo_load;exact rfl;exact rd_up2 O.h6;exact trivial) | refine we_seq ?_ | (refine wR ?_;try simp only [oS]) | refine wo_nil ?_ | refine wM ?_ | refine wA ?_ | refine wD ?_ | refine wL ?_)
   refine wo_call (.cons rfl (.cons rfl (.cons rfl (.cons rfl .nil)))) trivial (mtake_tr (A:=mtAcc gb db num den burst r sb says turn fin wg (mtPv gb db k gr good)) (mt_at B) (by omega) (by omega) (mt_take (y:=(now,n)) _ s (Nat.lt_succ_self _) hs) (.there .here)) ?_
   rintro v L' x' ⟨is,s1,hs1,rfl,rfl,rfl⟩
   repeat (first | (apply wo_po;apply mo_load;exact rfl;exact rd_up2 O.h6;exact trivial) | refine we_seq ?_ | (refine wR ?_;try simp only [oS]) | refine wo_nil ?_ | refine wM ?_ | refine wA ?_ | (apply wo_po;apply mo_extract;exact rfl;exact rfl;exact gY))
   refine wo_call (.cons rfl (.cons rfl .nil)) trivial (mstate_tr (A:=mtAcc gb db num den burst r sb says turn fin wg (mtPv gb db k gr good)) (mt_at B) (mt_state hs1) .here) ?_
   rintro v L' x' ⟨o,s2,ho,hs2,rfl,rfl,rfl⟩
   refine wo_star ((fun h=>∃ sv:Value,all [arr gb k [sv],vec 2 sv (gr.map mgC).flatten,arr db k [.bool good]] h)::wds (mAddr r) 1 (mK r num den burst) s2.f::seatR sb says turn fin::arr xb 0 [.int .i64 kind,.int .u64 (now0:Nat),.int .u64 (n0:Nat)]::Ro::F) (fun hp st=>mt_open st) ?_
   refine wo_ex .here fun sv=>?_
   refine wo_star (arr gb k [sv]::vec 2 sv (gr.map mgC).flatten::arr db k [.bool good]::wds (mAddr r) 1 (mK r num den burst) s2.f::seatR sb says turn fin::arr xb 0 [.int .i64 kind,.int .u64 (now0:Nat),.int .u64 (n0:Nat)]::Ro::F) (fun hp st=>star_open (M:=[_,_,_]) st) ?_
   refine wo_pure (of_has (.there .here) (vec_shape (by omega))) ?_
   rintro ⟨va,vn,vc,rfl,hvn,_⟩
   have hvn':vn=gr.length:=by rw [flat_len (k:=2) (fun _=>rfl)] at hvn;omega
   have rdb:∀ {c d:HProp} {v:Value} {T:List HProp},Rd (c::d::arr db k [v]::T) db (0+k) v:=.there (.there (Rd.row (k:=0) rfl (by omega)))
   have rgb:∀ {v:Value} {T:List HProp},Rd (arr gb k [v]::T) gb (0+k) v:=Rd.row (k:=0) rfl (by omega)
   repeat (first | refine we_seq ?_ | refine wo_nil ?_ | refine wM ?_ | refine wA ?_ | (apply wo_po;apply mo_extract;exact rfl;exact rfl;exact gY))
   refine we_join (mtMid gb db k num den burst r sb says turn fin wg g6 ib p8 mb g5 xb kind now0 n0 now n is o i va vn vc gr s2 (good&&decide (last≤o)) Ro F) ?_ ?_
   ·refine we_draw (List.range' 0 21) (by kernel_rfl) ?_
    cases good
    ·repeat (first | (apply ap_pure;exact rfl;exact rfl;exact trivial;intro L;apply mo_index1;exact rfl;exact rfl;omega) | (apply ap_read;exact rfl;exact rfl;exact trivial;apply mo_load;exact rfl;(first | exact Rd.of (.there (.there (.there (.there (.there (.there .here)))))) O.h1 | exact Rd.of (.there (.there (.there (.there (.there (.there .here)))))) O.h2 | exact rdb)) | refine aM ?_ | (apply ap_no;exact rfl;exact rfl;exact rfl;exact rfl) | (apply ap_pure;exact rfl;exact rfl;exact gY;intro L;apply mo_pickF;exact rfl;exact rfl;exact rfl))
     refine ap_loud rfl rfl rfl rfl rfl trivial (mo_store rfl rfl rfl (Wt.row (k:=0) (o:=k) (vs:=[.bool false]) (Nat.lt_succ_self 0) (by omega) (.there (.there .here)))) ?_
     rintro v' L' ⟨rfl,rfl⟩
     repeat (first | refine ap_end ?_)
     refine at_mid (B:=tH) (I:=mtMid gb db k num den burst r sb says turn fin wg g6 ib p8 mb g5 xb kind now0 n0 now n is o i va vn vc gr s2 (false&&decide (last≤o)) Ro F) false rfl ⟨rfl,rfl,rfl,rfl,rfl,rfl,rfl,rfl,rfl,rfl,rfl,trivial⟩ .refl rfl
    ·by_cases hlo:last≤o
     ·repeat (first | (apply ap_pure;exact rfl;exact rfl;exact trivial;intro L;apply mo_index1;exact rfl;exact rfl;omega) | (apply ap_read;exact rfl;exact rfl;exact trivial;apply mo_load;exact rfl;(first | exact Rd.of (.there (.there (.there (.there (.there (.there .here)))))) O.h1 | exact Rd.of (.there (.there (.there (.there (.there (.there .here)))))) O.h2 | exact rdb)) | (apply ap_pure;exact rfl;exact rfl;exact rfl;intro L;apply mo_bin;exact rfl;exact rfl;apply bin_eqlT;omega) | (apply ap_pure;exact rfl;exact rfl;exact rfl;intro L;apply mo_bin;exact rfl;exact rfl;apply bin_geqT;omega) | refine aM ?_ | (apply ap_pure;exact rfl;exact rfl;exact gY;intro L;apply mo_pickT;exact rfl;exact rfl;exact rfl))
      refine ap_loud rfl rfl rfl rfl rfl trivial (mo_store rfl rfl rfl (Wt.row (k:=0) (o:=k) (vs:=[.bool true]) (Nat.lt_succ_self 0) (by omega) (.there (.there .here)))) ?_
      rintro v' L' ⟨rfl,rfl⟩
      repeat (first | refine ap_end ?_)
      refine at_mid (B:=tH) (I:=mtMid gb db k num den burst r sb says turn fin wg g6 ib p8 mb g5 xb kind now0 n0 now n is o i va vn vc gr s2 (true&&decide (last≤o)) Ro F) true (by simp [mtMid,hlo]) ⟨rfl,rfl,rfl,rfl,rfl,rfl,rfl,rfl,rfl,rfl,rfl,trivial⟩ .refl rfl
     ·repeat (first | (apply ap_pure;exact rfl;exact rfl;exact trivial;intro L;apply mo_index1;exact rfl;exact rfl;omega) | (apply ap_read;exact rfl;exact rfl;exact trivial;apply mo_load;exact rfl;(first | exact Rd.of (.there (.there (.there (.there (.there (.there .here)))))) O.h1 | exact Rd.of (.there (.there (.there (.there (.there (.there .here)))))) O.h2 | exact rdb)) | (apply ap_pure;exact rfl;exact rfl;exact rfl;intro L;apply mo_bin;exact rfl;exact rfl;apply bin_eqlT;omega) | (apply ap_pure;exact rfl;exact rfl;exact rfl;intro L;apply mo_bin;exact rfl;exact rfl;apply bin_geqF;omega) | refine aM ?_ | (apply ap_pure;exact rfl;exact rfl;exact gY;intro L;apply mo_pickT;exact rfl;exact rfl;exact rfl))
      refine ap_loud rfl rfl rfl rfl rfl trivial (mo_store rfl rfl rfl (Wt.row (k:=0) (o:=k) (vs:=[.bool true]) (Nat.lt_succ_self 0) (by omega) (.there (.there .here)))) ?_
      rintro v' L' ⟨rfl,rfl⟩
      repeat (first | refine ap_end ?_)
      refine at_mid (B:=tH) (I:=mtMid gb db k num den burst r sb says turn fin wg g6 ib p8 mb g5 xb kind now0 n0 now n is o i va vn vc gr s2 (true&&decide (last≤o)) Ro F) false (by simp [mtMid,hlo]) ⟨rfl,rfl,rfl,rfl,rfl,rfl,rfl,rfl,rfl,rfl,rfl,trivial⟩ .refl rfl
   ·intro g2 hg2
    replace hg2:g2=(good&&decide (last≤o)):=hg2
    rw [← hg2] at hs2
    simp only [mtMid]
    cases is
    ·repeat (first | refine we_seq ?_ | (refine wR ?_;try simp only [oS]) | refine wo_nil ?_ | refine wM ?_ | refine wA ?_ | refine wadd ?_ | refine wF ?_ | refine we_skip ?_)
     refine at_roundS (B:=tH) (I:=mtInv gb db k num den burst r sb says turn fin wg g6 ib p8 mb g5 l Ro F) (R:=fun j=>l.length-j.1<l.length-i) (i+1,g2,o,gr,{ s2 with c:=() }) (by show l.length-(i+1)<l.length-i;omega) ⟨by show i+1≤l.length;omega,by show gr.length≤i+1;omega,hs2.q,hs2.f⟩ ⟨rfl,rfl,rfl,rfl,rfl,rfl,rfl,rfl,trivial⟩ (fun hp st=>?_) rfl
     exact Ent.star (.take .here (.drop .refl)) (mt_shut (good:=g2) st)
    ·repeat (first | refine we_seq ?_ | (refine wR ?_;try simp only [oS]) | refine wo_nil ?_ | refine wM ?_ | refine wA ?_ | refine wT ?_)
     refine we_draw (List.range' 0 13) (by kernel_rfl) ?_
     repeat (first | (apply ap_pure;exact rfl;exact rfl;exact trivial;intro L;apply mo_index1;exact rfl;exact rfl;omega) | (apply ap_read;exact rfl;exact rfl;exact trivial;apply mo_load;exact rfl;(first | exact Rd.of (.there (.there (.there (.there (.there (.there .here)))))) O.h7 | exact Rd.of (.there (.there (.there (.there (.there (.there .here)))))) O.h2 | exact rgb)) | (apply ap_pure;exact rfl;exact rfl;exact trivial;intro L;apply mo_build (pv:=[(0,_),(1,_)]);exact rfl;exact .cons rfl (.cons rfl .nil);exact rfl) | refine aM ?_)
     refine ap_loudR rfl rfl rfl rfl trivial (mo_buildSlice (sz:=2) (vs:=[.agg #[.int .u64 (now:Nat),.int .u64 (n:Nat)]]) rfl (.cons rfl .nil) rfl (by intro v hv;cases (List.mem_singleton.1 hv);exact rfl) (by omega)) ?_ ?_
     ·rintro v' L' ⟨sb2,rfl,rfl⟩ p hp
      replace hp:=(List.mem_filter.1 hp).1
      simp only [List.mem_cons,List.not_mem_nil,or_false] at hp
      repeat (rcases hp with rfl | hp;· first | exact .inl rfl | exact .inr ⟨_,rfl,trivial,mo_load rfl (by first | exact Rd.of (.there (.there (.there (.there (.there (.there (.there .here))))))) O.h7 | exact Rd.of (.there (.there (.there (.there (.there (.there (.there .here))))))) O.h2 | exact .there rgb)⟩)
      all_goals (subst hp;first | exact .inl rfl | exact .inr ⟨_,rfl,trivial,mo_load rfl (by first | exact Rd.of (.there (.there (.there (.there (.there (.there (.there .here))))))) O.h7 | exact Rd.of (.there (.there (.there (.there (.there (.there (.there .here))))))) O.h2 | exact .there rgb)⟩)
     rintro v' L' ⟨sb2,rfl,rfl⟩
     refine ap_loudR rfl rfl rfl rfl trivial (mo_append (sz:=2) (new:=[.int .u64 (now:Nat),.int .u64 (n:Nat)]) rfl rfl rfl rfl (.there (.there .here)) rfl (.inr ⟨_,_,rfl,Rds.all .here⟩) (by intro v hv;simp at hv;rcases hv with rfl | rfl <;> rfl) (by simp only [sliceLen];omega)) ?_ ?_
     ·rintro v2 L' rfl p hp
      replace hp:=(List.mem_filter.1 hp).1
      replace hp:=(List.mem_filter.1 hp).1
      simp only [List.mem_cons,List.not_mem_nil,or_false] at hp
      repeat (rcases hp with rfl | hp;· first | exact .inl rfl | exact .inr ⟨_,rfl,trivial,mo_load rfl (by first | exact Rd.of (.there (.there (.there (.there (.there (.there (.there .here))))))) O.h7 | exact Rd.of (.there (.there (.there (.there (.there (.there (.there .here))))))) O.h2 | exact .there (.there rgb))⟩)
      all_goals (subst hp;first | exact .inl rfl | exact .inr ⟨_,rfl,trivial,mo_load rfl (by first | exact Rd.of (.there (.there (.there (.there (.there (.there (.there .here))))))) O.h7 | exact Rd.of (.there (.there (.there (.there (.there (.there (.there .here))))))) O.h2 | exact .there (.there rgb))⟩)
     rintro v2 L' rfl
     repeat (first | (apply ap_pure;exact rfl;exact rfl;exact trivial;intro L;apply mo_index1;exact rfl;exact rfl;omega))
     refine ap_know (of_has .here (vec_shape (by omega))) ?_
     rintro ⟨wa,wn,wc,rfl,_⟩
     refine ap_loud rfl rfl rfl rfl rfl trivial (mo_store rfl rfl rfl (Wt.row (k:=0) (o:=k) (vs:=[.slice va vn vc]) (Nat.lt_succ_self 0) (by omega) (.there (.there .here)))) ?_
     rintro v' L' ⟨rfl,rfl⟩
     repeat (first | refine ap_end ?_)
     repeat (first | (refine wR ?_;try simp only [oS]) | refine wo_nil ?_ | refine wM ?_ | refine wA ?_ | refine wadd ?_)
     refine at_roundS (B:=tH) (I:=mtInv gb db k num den burst r sb says turn fin wg g6 ib p8 mb g5 l Ro F) (R:=fun j=>l.length-j.1<l.length-i) (i+1,g2,o,gr++[(now,n)],{ s2 with c:=() }) (by show l.length-(i+1)<l.length-i;omega) ⟨by show i+1≤l.length;omega,by show (gr++[(now,n)]).length≤i+1;simp;omega,hs2.q,hs2.f⟩ ⟨rfl,rfl,rfl,rfl,rfl,rfl,rfl,rfl,trivial⟩ (fun hp st=>?_) rfl
     have s3:Star (arr gb k [.slice wa wn wc]::vec 2 (.slice wa wn wc) ((gr++[(now,n)]).map mgC).flatten::arr db k [.bool g2]::wds (mAddr r) 1 (mK r num den burst) s2.f::seatR sb says turn fin::Ro::F) hp:=by
      rw [List.map_append,List.flatten_append]
      exact Ent.star (.take (.there (.there .here)) (.take .here (.take (.there .here) (.take (.there .here) (.take (.there .here) (.drop (.drop .refl))))))) st
     exact mt_shut (good:=g2) s3
  ·obtain rfl:i=l.length:=by omega
   repeat (first | (apply wo_po;apply mo_index1;exact rfl;exact rfl;omega;exact trivial) | (apply wo_po;apply mo_load;exact rfl;(first | exact q1 | exact q2 | exact q4);exact trivial) | refine wlssF ?_ | refine we_seq ?_ | (refine wR ?_;try simp only [oS]) | refine wo_nil ?_ | refine wM ?_ | refine wE ?_ | refine wF ?_ | refine we_exit ?_)
   (first | refine or0 Try.func50 Try.results50 hQ ?_ | refine on0 Try.func50 Try.results50 hQ ?_)
   refine ⟨s.s,s.q,s.n,rfl,?_,fun hp st=>?_⟩
   ·show mtPlan num den burst s.q=none
    rw [hs.q,List.drop_of_length_le (by simp [mtL])];rfl
   ·have s1:Star (wds (mAddr r) 1 (mK r num den burst) s.f::all []::seatR sb says turn fin::mtPv gb db k gr good::Ro::F) hp:=star_open (M:=[_,_,_,_]) st
    have s2:Star (wds (mAddr r) 1 (mK r num den burst) (fun _=>(show Nat from s.s))::all []::seatR sb says turn fin::mtPv gb db k gr good::Ro::F) hp:=star_map s1 (wds_congr fun j hj=>(show j=0 by omega)▸hs.f) fun _ z=>z
    have s3:Star (((mtG gb db num den burst).g (mAddr r) 1 (mK r num den burst)).U s.s::seatR sb says turn fin::mtPv gb db k gr good::F) hp:=star_shut (M:=[_,_]) (Ent.star (.take .here (.take .here (.take .here (.take .here (.drop .refl))))) s2)
    show Star (_::_::mtPv gb db (show MtQ from s.q).k (show MtQ from s.q).gr (show MtQ from s.q).good::F) hp
    rw [hs.q]
    exact s3
end
end
end Go.Proofs.Ythoefhocecdlhaa
namespace Go.PB
open Go
attribute [local irreducible] Mo Bin Eql Tr Wo
section
inductive ResW (P:Program) (e:Env) (L:List HProp):ResultVar→Value→Prop
 | old {r:ResultVar} {v:Value}:ResV P e L r v→ResW P e L r v
 | one {a ty b o:Nat} {v:Value} [p:Scal P ty]:lk e a=some (.pointer (some ⟨b,o,none⟩))→Rd L b o v→ResW P e L (.cell a ty) v
inductive ResM (P:Program) (e:Env) (L:List HProp):List ResultVar→List Value→Prop
 | nil:ResM P e L [] []
 | cons {r:ResultVar} {v:Value} {rs:List ResultVar} {vs:List Value}:ResW P e L r v→ResM P e L rs vs→ResM P e L (r::rs) (v::vs)
variable {P:Program} {B:Hand} {kd:CallKind} {n:Nat} {e:Env} {L:List HProp} {x:B.X}
theorem ResW.load {r:ResultVar} {v:Value} {t:Array Value} {M:Mark→Prop} {h:Hp} {Q:Value→Hp→Prop} {X:Value→Hp→Prop} (rv:ResW P e L r v) (ag:Agree e t) (s:Star L h) (q:Q v h) :
  wpS P M (loadR t r) h Q X:=by
 cases rv with
 | old h=>exact h.load ag s q
 | @one a ty b o v p ha hr =>
  have:t.getD a undef=_:=ag.ev (o:=.tmp a) ha
  show wpS P M (Sem.bind (asAddr (t.getD a undef)) fun y=>loadVar ty y) h Q X
  rw [this]
  show wpS P M (loadVar ty ⟨b,o,none⟩) h Q X
  show wpS P M (Sem.bind (isAgg ty) _) h _ X
  refine wpS_isAgg p.ok ?_
  exact wpS_load (hr h s) q
theorem at_leaveW {f:FuncId} {fn:Func} {rs:List ResultVar} {vs:List Value} {um:FrameMode} {Q:PB.End→FrameMode→Hp→B.X→Prop} {R:Value→List HProp→B.X→Prop} {ex:Ex} (hf:P.funcs[f]?=some fn) (hr:fn.results=rs.toArray)
  (q:∀ v L' x' h',R v L' x'→Star L' h'→Q (.ret v) um h' x') (hex:ex=.ret∨ex=.normal) (hv:ResM P e L rs vs) (hR:R (packR vs) L x) :
  At n e L fun t h=>leave P B f kd Q ex t ⟨[],um⟩ h x:=by
 intro t h a1 a2 a3
 have hw:Wd P B f kd .returning t ⟨[],um⟩ h x Q:=by
  refine wd_ret (packR vs) hf rfl ?_ (q _ L x h hR a3)
  have key:∀ {rs:List ResultVar} {vs:List Value},ResM P e L rs vs→∀ (acc:Array Value) (M:Mark→Prop) (Q:Array Value→Hp→Prop) (X:Value→Hp→Prop),Q (acc++vs.toArray) h →
    wpS P M (List.foldlM (fun (bs:Array Value) (r:ResultVar)=>bs.push <$> loadR t r) acc rs) h Q X:=by
   intro rs vs hv
   induction hv with
   | nil=>exact fun acc M Q X hq=>(show Q acc h from by simpa using hq)
   | @cons r v rs vs h1 _ ih =>
    intro acc M Q X hq
    rw [List.foldlM_cons,map_eq_pure_bind]
    refine wpS_bind _ _ (wpS_bind _ _ (h1.load a2 a3 ?_))
    show wpS P M (List.foldlM _ (acc.push v) rs) h Q X
    refine ih (acc.push v) M Q X ?_
    simpa using hq
  unfold results
  rw [hr,Array.mapM_eq_foldlM,← Array.foldlM_toList]
  refine wpS_bind _ _ ?_
  have e1:(fun (bs:Array Value) (r:ResultVar)=>(bs.push <$> (match r with | .tmp i=>pure (t.getD i undef) | .cell a ty=>do loadVar ty (← asAddr (t.getD a undef)):Sem Value):Sem (Array Value)))=fun bs r=>bs.push <$> loadR t r:=by
   funext bs r;cases r <;> rfl
  show wpS P _ (List.foldlM (fun (bs:Array Value) (r:ResultVar)=>(bs.push <$> (match r with | .tmp i=>pure (t.getD i undef) | .cell a ty=>do loadVar ty (← asAddr (t.getD a undef)):Sem Value):Sem (Array Value))) #[] rs) h _ _
  rw [e1]
  refine key hv #[] _ _ _ ?_
  rw [show (#[]++vs.toArray:Array Value)=vs.toArray by simp]
  refine ⟨?_,rfl⟩
  cases vs with
  | nil=>rfl
  | cons a l=>cases l <;> rfl
 rcases hex with rfl | rfl
 ·exact hw
 ·exact hw
end
end Go.PB
namespace Go.Proofs.Ythoefhocecdlhaa
open Go Go.PB
attribute [local irreducible] Mo Bin Eql Tr Wo Ap Wle
attribute [local instance] Pass.of_no
section
def boxesM (ts:List Nat):List HProp:=ts.mapIdx fun i b=>arr b 0 [.int .i64 (i:Nat)]
theorem boxesM_snoc {ts:List Nat} {t:Nat}:boxesM (ts++[t])=boxesM ts++[arr t 0 [.int .i64 (ts.length:Nat)]]:=by
 unfold boxesM
 rw [List.mapIdx_append]
 simp
theorem rd_lift5 {a b c d e:HProp} {L:List HProp} {b1 o:Nat} {v:Value} (h:Rd L b1 o v):Rd (a::b::c::d::e::L) b1 o v:=.there (.there (.there (.there (.there h))))
def tkInv (mb p8 g5 g6 gb db r qb qo n qc:Nat) (L:List HProp):PB.Inv (Nat × Nat × Value × List Nat) MX where
 e:=fun i=>[(2,.pointer (some ⟨mb,0,none⟩)),(3,.pointer (some ⟨p8,0,none⟩)),(4,i.2.2.1),(5,.pointer (some ⟨g5,0,none⟩)),(6,.pointer (some ⟨g6,0,none⟩)),(7,.pointer (some ⟨i.2.1,0,none⟩))]
 L:=fun i=>arr i.2.1 0 [.int .i64 (i.1:Nat)]::vec 1 i.2.2.1 (i.2.2.2.map fun b=>mtF g6 b p8 mb g5)::all (boxesM i.2.2.2)::arr mb 0 [.pointer (some ⟨r,0,none⟩)]::arr p8 0 [.slice (some ⟨qb,qo,none⟩) n qc]::arr g5 0 [.slice (some ⟨gb,0,none⟩) n n]::arr g6 0 [.slice (some ⟨db,0,none⟩) n n]::arr gb 0 (List.replicate n (.slice none 0 0))::arr db 0 (List.replicate n (.bool false))::L
 x:=fun _=>.idle
 ok:=fun i=>i.1≤n∧i.2.2.2.length=i.1
set_option maxHeartbeats 4000000 in
theorem mtakes_tr {L:List HProp} {r qb qo n qc:Nat} (hn:n≤6) :
  Tr Try.prog mT 25 [.pointer (some ⟨r,0,none⟩),.slice (some ⟨qb,qo,none⟩) n qc] L .idle fun v L' x'=>∃ mb p8 g5 g6 gb db tv ts,v=.tuple #[tv,.slice (some ⟨gb,0,none⟩) n n,.slice (some ⟨db,0,none⟩) n n]∧ts.length=n∧x'=.idle∧L'=vec 1 tv (ts.map fun b=>mtF g6 b p8 mb g5)::all (boxesM ts)::arr mb 0 [.pointer (some ⟨r,0,none⟩)]::arr p8 0 [.slice (some ⟨qb,qo,none⟩) n qc]::arr g5 0 [.slice (some ⟨gb,0,none⟩) n n]::arr g6 0 [.slice (some ⟨db,0,none⟩) n n]::arr gb 0 (List.replicate n (.slice none 0 0))::arr db 0 (List.replicate n (.bool false))::L:=by
 refine Tr.post (R:=fun v L' x'=>∃ mb p8 g5 g6 gb db tv ts,v=.tuple #[tv,.slice (some ⟨gb,0,none⟩) n n,.slice (some ⟨db,0,none⟩) n n]∧ts.length=n∧x'=MX.idle∧∀ h,Star L' h→Star (vec 1 tv (ts.map fun b=>mtF g6 b p8 mb g5)::all (boxesM ts)::arr mb 0 [.pointer (some ⟨r,0,none⟩)]::arr p8 0 [.slice (some ⟨qb,qo,none⟩) n qc]::arr g5 0 [.slice (some ⟨gb,0,none⟩) n n]::arr g6 0 [.slice (some ⟨db,0,none⟩) n n]::arr gb 0 (List.replicate n (.slice none 0 0))::arr db 0 (List.replicate n (.bool false))::L) h) ?_
  (by rintro v L' x' ⟨mb,p8,g5,g6,gb,db,tv,ts,h1,h2,rfl,h3⟩;exact ⟨_,⟨mb,p8,g5,g6,gb,db,tv,ts,h1,h2,rfl,rfl⟩,h3⟩)
 refine tr_of_body Try.func25 rfl Try.ntmps25 (by simp) fun um Q _ hQ=>?_
 simp only [argE,Nat.zero_add,Nat.reduceAdd]
 repeat (first | (apply wo_mo;apply mo_box;exact rfl;exact trivial) | refine we_seq ?_ | (refine wR ?_;try simp only [oS]))
 rintro v' L' ⟨mb,rfl,rfl⟩
 repeat (first | (apply wo_mo;apply mo_box;exact rfl;exact trivial))
 rintro v' L' ⟨p8,rfl,rfl⟩
 repeat (first | (apply wo_mo;apply mo_alloc;exact trivial) | refine wA ?_)
 rintro v' L' ⟨g5,rfl,rfl⟩
 repeat (first | (apply wo_mo;apply mo_alloc;exact trivial))
 rintro v' L' ⟨g6,rfl,rfl⟩
 refine wo_star (arr g6 0 [.slice none 0 0]::arr g5 0 [.slice none 0 0]::arr p8 0 [.slice (some ⟨qb,qo,none⟩) n qc]::arr mb 0 [.pointer (some ⟨r,0,none⟩)]::L) (fun h st=>st) ?_
 repeat (first | (apply wo_mo;apply mo_make (n:=n);exact rfl;exact rfl;exact rfl;omega;omega;exact trivial) | refine we_seq ?_ | (refine wR ?_;try simp only [oS]) | refine wo_nil ?_ | refine wL ?_ | refine wE ?_)
 rintro v' L' ⟨gb,rfl,rfl⟩
 repeat (first | refine wS ?_ | (apply wo_mo;apply mo_make (n:=n);exact rfl;exact rfl;exact rfl;omega;omega;exact trivial) | refine we_seq ?_ | (refine wR ?_;try simp only [oS]) | refine wo_nil ?_ | refine wL ?_ | refine wE ?_)
 rintro v' L' ⟨db,rfl,rfl⟩
 repeat (first | refine wS ?_ | (apply wo_mo;apply mo_alloc;exact trivial) | refine we_seq ?_ | (refine wR ?_;try simp only [oS]) | refine wo_nil ?_)
 rintro v' L' ⟨ib,rfl,rfl⟩
 repeat (first | refine wS ?_ | refine wo_nil ?_ | refine we_block ?_)
 refine we_star ((tkInv mb p8 g5 g6 gb db r qb qo n qc L).L (0,ib,.slice none 0 0,[])) (fun h st=>?_) ?_
 ·have s1:Star (arr ib 0 [.int .i64 (0:Nat)]::arr db 0 (zeros n [.bool false])::arr gb 0 (zeros n [.slice none 0 0])::arr g6 0 [.slice (some ⟨db,0,none⟩) n n]::arr g5 0 [.slice (some ⟨gb,0,none⟩) n n]::arr p8 0 [.slice (some ⟨qb,qo,none⟩) n qc]::arr mb 0 [.pointer (some ⟨r,0,none⟩)]::L) h:=by first | exact st | exact Ent.star (.take .here (.take .here (.take (.there .here) (.take .here (.take .here .refl))))) st
  rw [zeros_rep,zeros_rep] at s1
  have s3:Star (all []::vec 1 (.slice none 0 0) []::_) h:=star_shut (M:=[]) (vec_nil s1)
  exact Ent.star (.take (.there (.there .here)) (.take (.there .here) (.take .here (.take (.there (.there (.there (.there (.there .here))))) (.take (.there (.there (.there (.there .here)))) (.take (.there (.there (.there .here))) (.take (.there (.there .here)) (.take (.there .here) (.take .here .refl))))))))) s3
 refine we_loopN (tkInv mb p8 g5 g6 gb db r qb qo n qc L) (fun i=>n-i.1) (0,ib,.slice none 0 0,[]) ⟨Nat.zero_le _,rfl⟩ ⟨rfl,rfl,rfl,rfl,rfl,rfl,trivial⟩ .refl rfl ?_
 rintro ⟨i,ib,tv,ts⟩ ⟨hi,hts⟩
 dsimp only at hi hts
 simp only [tkInv]
 refine we_pure (of_has (.there .here) (vec_shape (by omega))) ?_
 rintro ⟨tva,tvn,tvc,rfl,htvn,_⟩
 have htvn:tvn=i:=by simp at htvn;omega
 subst htvn
 by_cases hlt:tvn<n
 ·repeat (first | (apply wo_po;apply mo_makeFunc (first:=[]) (cap:=[_,_,_,_,_]) (vf:=[]);exact .nil;exact .cons rfl (.cons rfl (.cons rfl (.cons rfl (.cons rfl .nil))));exact trivial) | (apply wo_mo;apply mo_buildSlice (sz:=1) (vs:=[mtF g6 ib p8 mb g5]);exact rfl;exact .cons rfl .nil;exact rfl;(intro v hv;cases (List.mem_singleton.1 hv);exact rfl);omega;exact trivial) | refine wlssT ?_ | refine we_seq ?_ | (refine wR ?_;try simp only [oS]) | refine wo_nil ?_ | refine wM ?_ | refine wL ?_ | refine wE ?_ | refine wT ?_ | refine we_skip ?_ | refine we_block ?_)
  rintro v' L' ⟨nb2,rfl,rfl⟩
  repeat (first | (apply wo_mo;apply mo_append (sz:=1) (new:=[mtF g6 ib p8 mb g5]);exact rfl;exact rfl;exact rfl;exact rfl;exact (.there (.there .here));exact rfl;exact .inr ⟨_,_,rfl,Rds.all .here⟩;(intro v hv;cases (List.mem_singleton.1 hv);exact rfl);(simp only [sliceLen];omega);exact trivial))
  rintro tv' L' rfl
  repeat (first | (apply wo_mo;apply mo_alloc;exact trivial) | refine we_seq ?_ | (refine wR ?_;try simp only [oS]) | refine wo_nil ?_ | refine wA ?_ | refine wL ?_)
  rintro v' L' ⟨ib2,rfl,rfl⟩
  repeat (first | refine wS ?_ | (refine wR ?_;try simp only [oS]) | refine wo_nil ?_ | refine wL ?_ | refine wadd ?_)
  refine at_roundS (B:=mT) (I:=tkInv mb p8 g5 g6 gb db r qb qo n qc L) (R:=fun q=>n-q.1<n-tvn) (tvn+1,ib2,tv',ts++[ib]) (by show n-(tvn+1)<n-tvn;omega) ⟨by show tvn+1≤n;omega,by simp [hts]⟩ ?_ (fun hp st=>?_) rfl
  ·exact ⟨rfl,rfl,rfl,rfl,rfl,rfl,trivial⟩
  ·have s1:=star_open (Ent.star (.take (.there (.there (.there (.there .here)))) (.take (.there (.there (.there .here))) (.take .here (.take .here (.drop .refl))))) st)
   have s2:Star (all (boxesM (ts++[ib]))::_) hp:=star_shut (by
    rw [boxesM_snoc,List.append_assoc,hts]
    exact s1)
   have e1:(ts++[ib]).map (fun b=>mtF g6 b p8 mb g5)=ts.map (fun b=>mtF g6 b p8 mb g5)++[mtF g6 ib p8 mb g5]:=by rw [List.map_append];rfl
   show Star (_::vec 1 tv' ((ts++[ib]).map fun b=>mtF g6 b p8 mb g5)::_) hp
   rw [e1]
   exact Ent.star (.take (.there .here) (.take (.there .here) (.take .here .refl))) s2
 obtain rfl:tvn=n:=by omega
 repeat (first | refine wlssF ?_ | refine we_seq ?_ | (refine wR ?_;try simp only [oS]) | refine wo_nil ?_ | refine wL ?_ | refine wE ?_ | refine wF ?_ | refine we_exit ?_)
 refine we_draw (List.range' 0 6) (by kernel_rfl) ?_
 repeat (first | refine aM ?_ | refine aA ?_ | refine aL ?_)
 refine ap_loudR rfl rfl rfl rfl trivial (mo_store rfl rfl rfl (Wt.row0 (k:=0) (vs:=[.slice (some ⟨gb,0,none⟩) tvn tvn]) (.there (.there (.there (.there (.there .here))))) (Nat.lt_succ_self 0))) ?_ ?_
 ·rintro v' L' ⟨rfl,rfl⟩ p hp
  replace hp:=(List.mem_filter.1 hp).1
  simp only [List.mem_cons,List.not_mem_nil,or_false] at hp
  repeat (rcases hp with rfl | hp;· first | exact .inl rfl | exact .inr ⟨_,rfl,trivial,mo_load rfl (by first | exact .there (.there (.there (.there (.there (.there (.row0 rfl)))))) | exact .there (.there (.there (.there (.there (.row0 rfl))))))⟩)
  all_goals (subst hp;first | exact .inl rfl | exact .inr ⟨_,rfl,trivial,mo_load rfl (by first | exact .there (.there (.there (.there (.there (.there (.row0 rfl)))))) | exact .there (.there (.there (.there (.there (.row0 rfl))))))⟩)
 rintro v' L' ⟨rfl,rfl⟩
 skip
 refine ap_loud rfl rfl rfl rfl rfl trivial (mo_store rfl rfl rfl (Wt.row0 (k:=0) (vs:=[.slice (some ⟨db,0,none⟩) tvn tvn]) (.there (.there (.there (.there (.there (.there .here)))))) (Nat.lt_succ_self 0))) ?_
 rintro v' L' ⟨rfl,rfl⟩
 repeat (first | refine ap_end ?_)
 repeat (first | refine we_ret ?_)
 refine at_leaveW (rs:=[.tmp 4,.cell 5 70,.cell 6 71]) Try.func25 Try.results25 hQ (.inl rfl) (.cons (.old (.tmp rfl)) (.cons (.one (v:=.slice (some ⟨gb,0,none⟩) tvn tvn) rfl (rd_lift5 (.row0 rfl))) (.cons (.one (v:=.slice (some ⟨db,0,none⟩) tvn tvn) rfl (.there (rd_lift5 (.row0 rfl)))) .nil))) ?_
 exact ⟨mb,p8,g5,g6,gb,db,_,ts,rfl,hts,rfl,fun h st=>Ent.star (.drop .refl) st⟩
end
end Go.Proofs.Ythoefhocecdlhaa
namespace Go.Proofs.Ythoefhocecdlhaa
open Go Go.PB
attribute [local irreducible] Mo Bin Eql Tr Wo Ap Wle
section
section
variable {B:Hand} [Lets B] {x:B.X} {L F:List HProp} {num den burst:Nat}
def ftA (x:B.X) (a:Option Addr) (n c bx num den burst:Nat) (L:List HProp):PB.Inv Nat B.X where
 e:=fun i=>[(1,.slice a n c),(2,.pointer (some ⟨bx,0,none⟩)),(5,.int .i64 (i:Nat))]
 L:=fun _=>arr bx 0 [.int .u64 (num:Nat),.int .u64 (den:Nat),.int .u64 (burst:Nat)]::L
 x:=fun _=>x
 ok:=fun i=>i≤n
def ftB (x:B.X) (a:Option Addr) (n c bx num den burst:Nat) (L:List HProp) (i:Nat):PB.Inv Nat B.X where
 e:=fun k=>[(1,.slice a n c),(2,.pointer (some ⟨bx,0,none⟩)),(5,.int .i64 (i:Nat)),(6,.int .i64 (k:Nat))]
 L:=fun _=>arr bx 0 [.int .u64 (num:Nat),.int .u64 (den:Nat),.int .u64 (burst:Nat)]::L
 x:=fun _=>x
 ok:=fun k=>k≤n
def ftC (x:B.X) (a:Option Addr) (n c bx num den burst:Nat) (L:List HProp) (l:List (Nat × Nat)) (i k f t:Nat):PB.Inv Nat B.X where
 e:=fun j=>[(1,.slice a n c),(2,.pointer (some ⟨bx,0,none⟩)),(5,.int .i64 (i:Nat)),(6,.int .i64 (k:Nat)),(7,.int .u64 (f:Nat)),(8,.int .u64 (t:Nat)),(9,.int .u64 (gsum f t (l.take j):Nat)),(10,.int .i64 (j:Nat))]
 L:=fun _=>arr bx 0 [.int .u64 (num:Nat),.int .u64 (den:Nat),.int .u64 (burst:Nat)]::L
 x:=fun _=>x
 ok:=fun j=>j≤n
theorem gsum_le {f t:Nat} {l:List (Nat × Nat)} (h:∀ y∈l,mtP y):gsum f t l≤64*l.length:=by
 induction l with
 | nil=>simp [gsum,sumN]
 | cons y l ih =>
  have h1:=ih fun z hz=>h z (by simp [hz])
  have h2:=(h y (by simp)).2
  unfold gsum at h1 ⊢
  simp only [List.map_cons,sumN,List.foldr_cons,List.length_cons] at h1 ⊢
  split <;> omega
set_option maxHeartbeats 4000000 in
theorem fits_tr {a:Option Addr} {n c:Nat} {l:List (Nat × Nat)} (hn:l.length=n) (hn72:n≤72) (hrd:n=0∨∃ b o,a=some ⟨b,o,none⟩∧Rds L b o (l.map mgC).flatten) (hP:∀ y∈l,mtP y) (O:BOk num den burst) (hfit:∀ f t,f≤t→gsum f t l≤burst+(t-f)*num/den) :
  Tr Try.prog B 56 [.agg #[.int .u64 (num:Nat),.int .u64 (den:Nat),.int .u64 (burst:Nat)],.slice a n c] L x fun v L' x'=>v=.bool true∧x'=x:=by
 subst hn
 have hO:=O
 obtain ⟨n1,n2,d1,d2,b1,b2⟩:=hO
 refine tr_of_body Try.func56 rfl Try.ntmps56 (by simp) fun um Q _ hQ=>?_
 simp only [argE,Nat.zero_add,Nat.reduceAdd]
 repeat (first | (apply wo_mo;apply mo_box;exact rfl;exact trivial) | refine we_seq ?_ | (refine wR ?_;try simp only [oS]))
 rintro v' L' ⟨bx,rfl,rfl⟩
 refine wo_ent (arr bx 0 [.int .u64 (num:Nat),.int .u64 (den:Nat),.int .u64 (burst:Nat)]::L) .refl ?_
 repeat (first | refine we_seq ?_ | (refine wR ?_;try simp only [oS]) | refine wo_nil ?_ | refine wA ?_ | refine we_block ?_)
 refine we_loopN (ftA x a l.length c bx num den burst L) (fun i=>l.length-i) 0 (Nat.zero_le _) ⟨rfl,rfl,rfl,trivial⟩ .refl rfl ?_
 intro i hi
 replace hi:i≤l.length:=hi
 simp only [ftA]
 by_cases hlt:i<l.length
 ·obtain ⟨b,o,rfl,hr⟩:=hrd.resolve_left (by omega)
  have rd0:∀ {j:Nat} {y:Nat × Nat},l[j]?=some y→Rd (arr bx 0 [.int .u64 (num:Nat),.int .u64 (den:Nat),.int .u64 (burst:Nat)]::L) b (o+2*j+0) (.int .u64 (y.1:Nat)):=fun {j y} hy=>.there (by
   have:=hr (2*j+0) (.int .u64 (y.1:Nat)) (by rw [flat_get (k:=2) (fun _=>rfl) l j 0 _ hy (by omega)];rfl)
   rwa [← Nat.add_assoc] at this)
  have rd1:∀ {j:Nat} {y:Nat × Nat},l[j]?=some y→Rd (arr bx 0 [.int .u64 (num:Nat),.int .u64 (den:Nat),.int .u64 (burst:Nat)]::L) b (o+2*j+1) (.int .u64 (y.2:Nat)):=fun {j y} hy=>.there (by
   have:=hr (2*j+1) (.int .u64 (y.2:Nat)) (by rw [flat_get (k:=2) (fun _=>rfl) l j 1 _ hy (by omega)];rfl)
   rwa [← Nat.add_assoc] at this)
  obtain ⟨yi,hyi⟩:∃ y,l[i]?=some y:=⟨l[i],List.getElem?_eq_getElem hlt⟩
  obtain ⟨f,hf⟩:∃ f,yi.1=f:=⟨_,rfl⟩
  have ri:=rd0 hyi
  rw [hf] at ri
  have hfm:=(hP yi (List.mem_of_getElem? hyi)).1
  rw [hf] at hfm
  repeat (first | refine wlssT ?_ | refine we_seq ?_ | (refine wR ?_;try simp only [oS]) | refine wo_nil ?_ | refine wM ?_ | refine wA ?_ | refine wE ?_ | refine wT ?_ | refine we_skip ?_ | refine we_block ?_)
  refine we_loopN (ftB x (some ⟨b,o,none⟩) l.length c bx num den burst L i) (fun k=>l.length-k) 0 (Nat.zero_le _) ⟨rfl,rfl,rfl,rfl,trivial⟩ .refl rfl ?_
  intro k hk
  replace hk:k≤l.length:=hk
  simp only [ftB]
  by_cases hlk:k<l.length
  ·obtain ⟨yk,hyk⟩:∃ y,l[k]?=some y:=⟨l[k],List.getElem?_eq_getElem hlk⟩
   obtain ⟨t,ht⟩:∃ t,yk.1=t:=⟨_,rfl⟩
   have rk:=rd0 hyk
   rw [ht] at rk
   have htm:=(hP yk (List.mem_of_getElem? hyk)).1
   rw [ht] at htm
   repeat (first | refine wlssT ?_ | refine we_seq ?_ | (refine wR ?_;try simp only [oS]) | refine wo_nil ?_ | refine wM ?_ | refine wE ?_ | refine wT ?_ | refine we_skip ?_ | refine we_block ?_)
   refine we_draw (List.range' 0 12) (by kernel_rfl) ?_
   repeat (first | (apply ap_pure;exact rfl;exact rfl;exact trivial;intro L;apply mo_indexAddr (r:=o+2*i);exact rfl;exact rfl;omega;omega;omega) | (apply ap_pure;exact rfl;exact rfl;exact trivial;intro L;apply mo_indexAddr (r:=o+2*k);exact rfl;exact rfl;omega;omega;omega) | (apply ap_read;exact rfl;exact rfl;exact trivial;apply mo_load;exact rfl;(first | exact ri | exact rk)) | refine aM ?_ | refine aA ?_ | refine aD ?_ | refine ap_end ?_)
   by_cases hft:t<f
   ·repeat (first | refine wlssT ?_ | refine we_seq ?_ | (refine wR ?_;try simp only [oS]) | refine wo_nil ?_ | refine wM ?_ | refine wA ?_ | refine wadd ?_ | refine wT ?_ | refine we_exit ?_)
    refine at_round (B:=B) (I:=ftB x (some ⟨b,o,none⟩) l.length c bx num den burst L i) (R:=fun j=>l.length-j<l.length-k) (k+1) (by show l.length-(k+1)<l.length-k;omega) (by show k+1≤l.length;omega) ⟨rfl,rfl,rfl,rfl,trivial⟩ .refl rfl
   ·repeat (first | refine wlssF ?_ | refine we_seq ?_ | (refine wR ?_;try simp only [oS]) | refine wo_nil ?_ | refine wM ?_ | refine wA ?_ | refine wF ?_ | refine we_skip ?_ | refine we_block ?_)
    refine we_loopN (ftC x (some ⟨b,o,none⟩) l.length c bx num den burst L l i k f t) (fun j=>l.length-j) 0 (Nat.zero_le _) ⟨rfl,rfl,rfl,rfl,rfl,rfl,rfl,rfl,trivial⟩ .refl rfl ?_
    intro j hj
    replace hj:j≤l.length:=hj
    simp only [ftC]
    by_cases hlj:j<l.length
    ·obtain ⟨yj,hyj⟩:∃ y,l[j]?=some y:=⟨l[j],List.getElem?_eq_getElem hlj⟩
     have r0:=rd0 hyj
     have r1:=rd1 hyj
     have hPj:=hP yj (List.mem_of_getElem? hyj)
     have hs1:gsum f t (l.take (j+1))=gsum f t (l.take j)+gsum f t [yj]:=by rw [List.take_add_one,hyj,Option.toList_some,gsum_app]
     rw [gsum_one] at hs1
     have hs2:=gsum_le (f:=f) (t:=t) (l:=l.take j) fun y hy=>hP y (List.mem_of_mem_take hy)
     rw [List.length_take] at hs2
     obtain ⟨s0,hs0⟩:∃ s,gsum f t (l.take j)=s:=⟨_,rfl⟩
     obtain ⟨s1,hs1'⟩:∃ s,gsum f t (l.take (j+1))=s:=⟨_,rfl⟩
     rw [hs0,hs1'] at hs1
     rw [hs0] at hs2 ⊢
     obtain ⟨yj1,yj2⟩:=yj
     simp only at r0 r1 hPj hs1
     obtain ⟨hp1,hp2⟩:=hPj
     simp only at hp1 hp2
     by_cases c1:f≤yj1
     ·by_cases c2:yj1≤t
      ·rw [if_pos ⟨c1,c2⟩] at hs1
       have hadd:IntKind.u64.wrap ((s0:Int)+(yj2:Nat))=((s1:Nat):Int):=(wrap_u64 (by omega) (by omega)).trans (by omega)
       repeat (first | (apply wo_po;apply mo_indexAddr (r:=o+2*j);exact rfl;exact rfl;omega;omega;omega;exact gY) | (apply wo_po;apply mo_load;exact rfl;(first | exact r0 | exact r1);exact gY) | (apply wo_po;apply mo_bin;exact rfl;exact rfl;apply bin_add;exact hadd;exact trivial) | refine wlssT ?_ | refine wleqT ?_ | refine wgeqT ?_ | refine we_seq ?_ | (refine wR ?_;try simp only [oS]) | refine wo_nil ?_ | refine wM ?_ | refine wA ?_ | refine wK ?_ | refine wD ?_ | refine wadd ?_ | refine wE ?_ | refine wT ?_ | refine we_skip ?_ | refine we_block ?_)
       refine at_round (B:=B) (I:=ftC x (some ⟨b,o,none⟩) l.length c bx num den burst L l i k f t) (R:=fun q=>l.length-q<l.length-j) (j+1) (by show l.length-(j+1)<l.length-j;omega) (by show j+1≤l.length;omega) ?_ .refl rfl
       refine ⟨rfl,rfl,rfl,rfl,rfl,rfl,?_,rfl,trivial⟩
       show _=some (Value.int .u64 ((gsum f t (l.take (j+1)):Nat):Int))
       rw [hs1'];rfl
      ·rw [if_neg (fun h=>c2 h.2)] at hs1
       repeat (first | (apply wo_po;apply mo_indexAddr (r:=o+2*j);exact rfl;exact rfl;omega;omega;omega;exact gY) | (apply wo_po;apply mo_load;exact rfl;(first | exact r0 | exact r1);exact gY) | refine wlssT ?_ | refine wleqF ?_ | refine wgeqT ?_ | refine we_seq ?_ | (refine wR ?_;try simp only [oS]) | refine wo_nil ?_ | refine wM ?_ | refine wA ?_ | refine wK ?_ | refine wD ?_ | refine wadd ?_ | refine wE ?_ | refine wT ?_ | refine wF ?_ | refine we_skip ?_ | refine we_block ?_)
       refine at_round (B:=B) (I:=ftC x (some ⟨b,o,none⟩) l.length c bx num den burst L l i k f t) (R:=fun q=>l.length-q<l.length-j) (j+1) (by show l.length-(j+1)<l.length-j;omega) (by show j+1≤l.length;omega) ?_ .refl rfl
       refine ⟨rfl,rfl,rfl,rfl,rfl,rfl,?_,rfl,trivial⟩
       show _=some (Value.int .u64 ((gsum f t (l.take (j+1)):Nat):Int))
       rw [hs1',hs1];rfl
     ·rw [if_neg (fun h=>c1 h.1)] at hs1
      repeat (first | (apply wo_po;apply mo_indexAddr (r:=o+2*j);exact rfl;exact rfl;omega;omega;omega;exact gY) | (apply wo_po;apply mo_load;exact rfl;(first | exact r0 | exact r1);exact gY) | refine wlssT ?_ | refine wgeqF ?_ | refine we_seq ?_ | (refine wR ?_;try simp only [oS]) | refine wo_nil ?_ | refine wM ?_ | refine wA ?_ | (apply wo_no;exact rfl) | refine wJ ?_ | refine wD ?_ | refine wadd ?_ | refine wE ?_ | refine wT ?_ | refine wF ?_ | refine we_skip ?_ | refine we_block ?_)
      refine at_round (B:=B) (I:=ftC x (some ⟨b,o,none⟩) l.length c bx num den burst L l i k f t) (R:=fun q=>l.length-q<l.length-j) (j+1) (by show l.length-(j+1)<l.length-j;omega) (by show j+1≤l.length;omega) ?_ .refl rfl
      refine ⟨rfl,rfl,rfl,rfl,rfl,rfl,?_,rfl,trivial⟩
      show _=some (Value.int .u64 ((gsum f t (l.take (j+1)):Nat):Int))
      rw [hs1',hs1];rfl
    ·obtain rfl:j=l.length:=by omega
     rw [List.take_length]
     have hfin:=hfit f t (by omega)
     have hsm:=gsum_le (f:=f) (t:=t) hP
     obtain ⟨w,hw⟩:∃ w,gsum f t l=w:=⟨_,rfl⟩
     rw [hw] at hfin hsm ⊢
     obtain ⟨d,hd⟩:∃ d,t-f=d:=⟨_,rfl⟩
     rw [hd] at hfin
     have hdn:d*num≤1099511627776*65536:=Nat.mul_le_mul (by omega) n2
     obtain ⟨m,hm⟩:∃ m,d*num=m:=⟨_,rfl⟩
     rw [hm] at hfin hdn
     have hqm:m/den≤m:=Nat.div_le_self _ _
     obtain ⟨q,hq⟩:∃ q,m/den=q:=⟨_,rfl⟩
     rw [hq] at hfin hqm
     have e1:IntKind.u64.wrap ((t:Int)-(f:Int))=((d:Nat):Int):=(wrap_u64 (by omega) (by omega)).trans (by omega)
     have e2:IntKind.u64.wrap ((d:Int)*(num:Int))=((m:Nat):Int):=by
      rw [show ((d:Int)*(num:Int))=((d*num:Nat):Int) from (Int.natCast_mul _ _).symm,hm];exact wrap_u64 (by omega) (by omega)
     have e3:IntKind.u64.wrap ((m:Int).tdiv (den:Int))=((q:Nat):Int):=by rw [← Int.ofNat_tdiv,hq];exact wrap_u64 (by omega) (by omega)
     have e4:IntKind.u64.wrap ((burst:Int)+(q:Int))=((burst+q:Nat):Int):=(wrap_u64 (by omega) (by omega)).trans (by omega)
     repeat (first | refine wlssF ?_ | refine we_seq ?_ | (refine wR ?_;try simp only [oS]) | refine wo_nil ?_ | refine wM ?_ | refine wE ?_ | refine wF ?_ | refine we_exit ?_)
     refine we_draw (List.range' 0 14) (by kernel_rfl) ?_
     repeat (first | (apply ap_pure;exact rfl;exact rfl;exact trivial;intro L;apply mo_bin;exact rfl;exact rfl;apply bin_sub;exact e1) | (apply ap_pure;exact rfl;exact rfl;exact trivial;intro L;apply mo_bin;exact rfl;exact rfl;apply bin_mul;exact e2) | (apply ap_pure;exact rfl;exact rfl;exact trivial;intro L;apply mo_bin;exact rfl;exact rfl;apply bin_quo;omega;exact e3) | (apply ap_pure;exact rfl;exact rfl;exact trivial;intro L;apply mo_bin;exact rfl;exact rfl;apply bin_add;exact e4) | (apply ap_pure;exact rfl;exact rfl;exact trivial;intro L;apply mo_bin;exact rfl;exact rfl;apply bin_gtrF;omega) | refine aM ?_ | refine aD ?_ | refine aL ?_ | refine ap_end ?_)
     repeat (first | (refine wR ?_;try simp only [oS]) | refine wo_nil ?_ | refine wM ?_ | refine wA ?_ | refine wadd ?_ | refine wF ?_ | refine we_skip ?_)
     refine at_round (B:=B) (I:=ftB x (some ⟨b,o,none⟩) l.length c bx num den burst L i) (R:=fun j=>l.length-j<l.length-k) (k+1) (by show l.length-(k+1)<l.length-k;omega) (by show k+1≤l.length;omega) ⟨rfl,rfl,rfl,rfl,trivial⟩ .refl rfl
  ·obtain rfl:k=l.length:=by omega
   repeat (first | refine wlssF ?_ | refine we_seq ?_ | (refine wR ?_;try simp only [oS]) | refine wo_nil ?_ | refine wM ?_ | refine wA ?_ | refine wadd ?_ | refine wE ?_ | refine wF ?_ | refine we_exit ?_)
   refine at_round (B:=B) (I:=ftA x (some ⟨b,o,none⟩) l.length c bx num den burst L) (R:=fun j=>l.length-j<l.length-i) (i+1) (by show l.length-(i+1)<l.length-i;omega) (by show i+1≤l.length;omega) ⟨rfl,rfl,rfl,trivial⟩ .refl rfl
 ·obtain rfl:i=l.length:=by omega
  repeat (first | refine wlssF ?_ | refine we_seq ?_ | (refine wR ?_;try simp only [oS]) | refine wo_nil ?_ | refine wM ?_ | refine wA ?_ | refine wE ?_ | refine wF ?_ | refine we_ret ?_ | refine we_exit ?_)
  (first | refine or1 Try.func56 Try.results56 hQ rfl ?_ | refine on1 Try.func56 Try.results56 hQ rfl ?_)
  exact ⟨rfl,rfl⟩
def mtC (gb db k:Nat) (y:Value × List (Nat × Nat)):HProp:=all [arr gb k [y.1],vec 2 y.1 (y.2.map mgC).flatten,arr db k [.bool true]]
def MtY (gs:List (List (Nat × Nat))) (k:Nat) (y:Value × List (Nat × Nat)):Prop:=gs[k]?=some y.2∧∃ ga gc,y.1=.slice ga y.2.length gc∧(ga=none→y.2.length=0)∧∀ z,ga=some z→z=⟨z.block,z.off,none⟩
theorem mts_ex {gb db:Nat} {qs:List MtQ} {L:List HProp} {h:Hp} (hk:∀ (k:Nat) q,qs[k]?=some q→q.k=k∧q.good=true) (s:Star (all (qs.map fun q=>mtPv gb db q.k q.gr q.good)::L) h) :
  ∃ ys:List (Value × List (Nat × Nat)),(ys.length=qs.length∧∀ (k:Nat) y,ys[k]?=some y→MtY (qs.map MtQ.gr) k y)∧Star (all (ys.mapIdx (mtC gb db))::L) h:=by
 obtain ⟨ys,⟨h1,h2⟩,h3⟩:=alls_ex (C:=mtC gb db) (Q:=MtY (qs.map MtQ.gr)) (fun k c hc h hz=>by
  rw [List.getElem?_map,Option.map_eq_some_iff] at hc
  obtain ⟨q,hq,rfl⟩:=hc
  obtain ⟨e1,e2⟩:=hk k q hq
  rw [e1,e2] at hz
  obtain ⟨h1,h2,sp,⟨sv,hz⟩,_⟩:=hz
  have sg:mtC gb db k (sv,q.gr) h1:=hz
  refine ⟨(sv,q.gr),⟨by rw [List.getElem?_map,hq];rfl,?_⟩,?_⟩
  ·obtain ⟨g1,g2,sp1,_,g3,g4,sp2,hv,_⟩:=hz
   obtain ⟨ga,gn,gc,e,hn,_,z1,z2⟩:=vec_shape (by omega) _ hv
   have:gn=q.gr.length:=by rw [flat_len (k:=2) (fun _=>rfl)] at hn;omega
   subst this
   exact ⟨ga,gc,e,z1,z2⟩
  ·have s1:Star (mtC gb db k (sv,q.gr)::[]) h:=⟨h1,h2,sp,sg,‹_›⟩
   exact star_open (M:=[_,_,_]) s1) s
 exact ⟨ys,⟨by simpa using h1,h2⟩,h3⟩
def bdInv (x:B.X) (gb db n bx num den burst:Nat) (gs:List (List (Nat × Nat))) (L:List HProp):PB.Inv (Nat × Value) B.X where
 e:=fun i=>[(1,.slice (some ⟨gb,0,none⟩) n n),(2,.slice (some ⟨db,0,none⟩) n n),(3,.pointer (some ⟨bx,0,none⟩)),(7,i.2),(8,.int .i64 (i.1:Nat))]
 L:=fun i=>vec 2 i.2 (((gs.take i.1).flatten).map mgC).flatten::arr bx 0 [.int .u64 (num:Nat),.int .u64 (den:Nat),.int .u64 (burst:Nat)]::L
 x:=fun _=>x
 ok:=fun i=>i.1≤n
theorem flat_le {l:List (List (Nat × Nat))} (h:∀ g∈l,g.length≤12):l.flatten.length≤12*l.length:=by
 induction l with
 | nil=>simp
 | cons a l ih =>
  have h1:=ih fun g hg=>h g (by simp [hg])
  have h2:=h a (by simp)
  simp only [List.flatten_cons,List.length_append,List.length_cons];omega
set_option maxHeartbeats 4000000 in
theorem bound_tr {gb db n:Nat} {gs:List (List (Nat × Nat))} {ys:List (Value × List (Nat × Nat))} (hh:Has L (all (ys.mapIdx (mtC gb db))) F) (hY:∀ (k:Nat) y,ys[k]?=some y→MtY gs k y) (hl:ys.length=n) (hg:gs.length=n) (hn:n≤6) (h12:∀ g∈gs,g.length≤12) (hP:∀ g∈gs,∀ y∈g,mtP y) (O:BOk num den burst) (hfit:∀ f t,f≤t→gsum f t gs.flatten≤burst+(t-f)*num/den) :
  Tr Try.prog B 28 [.agg #[.int .u64 (num:Nat),.int .u64 (den:Nat),.int .u64 (burst:Nat)],.slice (some ⟨gb,0,none⟩) n n,.slice (some ⟨db,0,none⟩) n n] L x fun v L' x'=>v=.bool true∧x'=x:=by
 refine tr_of_body Try.func28 rfl Try.ntmps28 (by simp) fun um Q _ hQ=>?_
 simp only [argE,Nat.zero_add,Nat.reduceAdd]
 repeat (first | (apply wo_mo;apply mo_box;exact rfl;exact trivial) | refine we_seq ?_ | (refine wR ?_;try simp only [oS]))
 rintro v' L' ⟨bx,rfl,rfl⟩
 refine wo_ent (arr bx 0 [.int .u64 (num:Nat),.int .u64 (den:Nat),.int .u64 (burst:Nat)]::L) .refl ?_
 repeat (first | refine we_seq ?_ | (refine wR ?_;try simp only [oS]) | refine wo_nil ?_ | refine wA ?_ | refine we_block ?_)
 refine we_star (vec 2 (.slice none 0 0) []::arr bx 0 [.int .u64 (num:Nat),.int .u64 (den:Nat),.int .u64 (burst:Nat)]::L) (fun h st=>vec_nil st) ?_
 refine we_loopN (bdInv x gb db n bx num den burst gs L) (fun i=>n-i.1) (0,.slice none 0 0) (Nat.zero_le _) ⟨rfl,rfl,rfl,rfl,rfl,trivial⟩ .refl rfl ?_
 rintro ⟨i,v⟩ hi
 replace hi:i≤n:=hi
 simp only [bdInv]
 have hfl:=flat_le (l:=gs.take i) fun g hg=>h12 g (List.mem_of_mem_take hg)
 rw [List.length_take] at hfl
 refine we_pure (of_has .here (vec_shape (by omega))) ?_
 rintro ⟨va,vn,vc,rfl,hvn,_,hvz,hvy⟩
 have hvn':vn=(gs.take i).flatten.length:=by rw [flat_len (k:=2) (fun _=>rfl)] at hvn;omega
 by_cases hlt:i<n
 ·obtain ⟨y,hy⟩:∃ y,ys[i]?=some y:=⟨ys[i]'(by omega),List.getElem?_eq_getElem (by omega)⟩
  obtain ⟨sv,g⟩:=y
  obtain ⟨hgi,ga,gc,e,z1,z2⟩:=hY i _ hy
  dsimp only at hgi e z1
  subst e
  have h12g:=h12 g (List.mem_of_getElem? hgi)
  have hmi:(ys.mapIdx (mtC gb db))[i]?=some (mtC gb db i (.slice ga g.length gc,g)):=by rw [List.getElem?_mapIdx,hy];rfl
  have r1:Rd L gb (0+i) (.slice ga g.length gc):=Rd.deep hh hmi (rd_all (Rd.row (k:=0) rfl (by omega)))
  have r2:Rd L db (0+i) (.bool true):=Rd.deep hh hmi (rd_all (.there (.there (Rd.row (k:=0) rfl (by omega)))))
  have r3:g.length=0∨∃ b o,ga=some ⟨b,o,none⟩∧Rds (arr bx 0 [.int .u64 (num:Nat),.int .u64 (den:Nat),.int .u64 (burst:Nat)]::L) b o (g.map mgC).flatten:=by
   by_cases h0:g.length=0
   ·exact .inl h0
   ·right
    cases ga with
    | none=>exact absurd (z1 rfl) h0
    | some ad =>
     obtain ⟨b,o,sp⟩:=ad
     have:=z2 _ rfl
     simp only [Addr.mk.injEq,true_and] at this
     subst this
     exact ⟨b,o,rfl,fun j v hj=>.there (Rd.deep hh hmi (rd_all (rd_vec (.there .here) hj)))⟩
  repeat (first | (apply wo_po;apply mo_index1;exact rfl;exact rfl;omega;exact trivial) | (apply wo_po;apply mo_load;exact rfl;(first | exact .there (.there r1) | exact .there (.there r2));exact trivial) | (apply wo_mo;apply mo_append (sz:=2) (new:=(g.map mgC).flatten);exact rfl;exact rfl;exact rfl;exact rfl;exact .here;(rw [flat_len (k:=2) (fun _=>rfl)]);(exact r3.imp id fun ⟨b,o,e,r⟩=>⟨b,o,e,fun j v hj=>.there (r j v hj)⟩);(intro w hw;obtain ⟨ll,hll,hw⟩:=List.mem_flatten.1 hw;obtain ⟨z,_,rfl⟩:=List.mem_map.1 hll;simp [mgC] at hw;rcases hw with rfl | rfl <;> rfl);(simp only [sliceLen];omega);exact trivial) | refine wlssT ?_ | refine we_seq ?_ | (refine wR ?_;try simp only [oS]) | refine wo_nil ?_ | refine wM ?_ | (apply wo_po;apply mo_not;exact rfl;exact gY) | refine wE ?_ | refine wT ?_ | refine wF ?_ | refine we_skip ?_ | refine we_block ?_)
  rintro v' L' rfl
  repeat (first | (refine wR ?_;try simp only [oS]) | refine wo_nil ?_ | refine wM ?_ | refine wA ?_ | refine wadd ?_)
  refine at_round (B:=B) (I:=bdInv x gb db n bx num den burst gs L) (R:=fun j=>n-j.1<n-i) (i+1,v') (by show n-(i+1)<n-i;omega) (by show i+1≤n;omega) ⟨rfl,rfl,rfl,rfl,rfl,trivial⟩ ?_ rfl
  show Ent _ (vec 2 v' (((gs.take (i+1)).flatten).map mgC).flatten::_)
  rw [show (((gs.take (i+1)).flatten).map mgC).flatten=(((gs.take i).flatten).map mgC).flatten++(g.map mgC).flatten by rw [List.take_add_one,hgi,Option.toList_some,List.flatten_append,List.map_append,List.flatten_append];simp]
  exact .refl
 ·obtain rfl:i=n:=by omega
  rw [← hg,List.take_length] at hvn' ⊢
  rw [← hg] at hl hn hi
  repeat (first | (apply wo_po;apply mo_loadA (vs:=[.int .u64 (num:Nat),.int .u64 (den:Nat),.int .u64 (burst:Nat)]);exact rfl;exact rfl;exact Rds.all (.there .here);exact trivial) | refine wlssF ?_ | refine we_seq ?_ | (refine wR ?_;try simp only [oS]) | refine wo_nil ?_ | refine wM ?_ | refine wE ?_ | refine wF ?_ | refine we_exit ?_)
  have hfl':=flat_le h12
  refine wo_call (.cons rfl (.cons rfl .nil)) trivial (fits_tr (l:=gs.flatten) hvn'.symm (by omega) ?_ (fun y hy=>by obtain ⟨g,hg,hy⟩:=List.mem_flatten.1 hy;exact hP g hg y hy) O hfit) ?_
  ·by_cases h0:vn=0
   ·exact .inl h0
   ·right
    cases va with
    | none=>exact absurd (hvz rfl) h0
    | some ad =>
     obtain ⟨b,o,sp⟩:=ad
     have:=hvy _ rfl
     simp only [Addr.mk.injEq,true_and] at this
     subst this
     exact ⟨b,o,rfl,fun j v hj=>rd_vec .here hj⟩
  rintro v1 L1 x1 ⟨rfl,rfl⟩
  repeat (first | refine wo_nil ?_ | refine wA ?_ | refine we_ret ?_)
  (first | refine or1 Try.func28 Try.results28 hQ rfl ?_ | refine on1 Try.func28 Try.results28 hQ rfl ?_)
  exact ⟨rfl,rfl⟩
end
end
section
abbrev MoE:=Nat × Nat × Bool
abbrev MoQ:=List (Nat × Nat) × Option Nat
def moPlan (num den burst:Nat) (q:MoQ):Option ((Int × Int) × (Nat × List MoE→(Nat × List MoE) × MoQ)) :=
 match q.1 with
 | []=>none
 | y::rest=>match q.2 with
  | none=>some ((((1:Nat):Int),((0:Nat):Int)),fun s=>match takeN num den burst s.1 y.1 y.2 with
   | none=>((s.1,s.2++[(y.1,y.2,false)]),(rest,none))
   | some _=>(s,(y::rest,some s.1)))
  | some o=>some ((((5:Nat):Int),((0:Nat):Int)),fun s=>if s.1=o then (((takeN num den burst o y.1 y.2).getD 0,s.2++[(y.1,y.2,true)]),(rest,none)) else (s,(y::rest,none)))
def moC (e:MoE):List Value:=[.int .i64 0,.int .u64 (e.1:Nat),.int .u64 (e.2.1:Nat),.bool e.2.2]
def moZ (lb:Nat) (l:List MoE):HProp:=fun h=>∃ sv,all [arr lb 0 [sv],vec 4 sv (l.map moC).flatten] h
def moW (lb num den burst:Nat):WGm where
 σ:=Nat × List MoE
 θ:=MoQ
 ζ:=List MoE
 wf:=fun s _=>s.1
 zf:=fun s=>s.2
 Z:=moZ lb
 plan:=moPlan num den burst
 ok:=fun s=>s.2.length≤100
 Pv:=fun _ _=>True
 up:=fun _ _ _=>trivial
section
variable {lb num den burst r sb says turn fin wg:Nat} {Pm:HProp}
structure MoS (rl:List (Nat × Nat)) (s:GaS (moW lb num den burst)):Prop where
 q:s.q=((rl,none):MoQ)
 f:s.f 0=(show Nat × List MoE from s.s).1
 c:s.c=(show Nat × List MoE from s.s).2
end
def MoR (num den burst:Nat):Nat→List MoE→Nat→Prop
 | s,[],o=>s=o
 | s,e::l,o=>e.2.2=(takeN num den burst s e.1 e.2.1).isSome∧MoR num den burst ((takeN num den burst s e.1 e.2.1).getD s) l o
section
variable {num den burst:Nat}
def moP (y:Nat × Nat):Prop:=y.1≤1099511627776∧y.2<18446744073709551616
structure MoI (num den burst:Nat) (s:Nat × List MoE) (qs:List MoQ):Prop where
 run:MoR num den burst 0 s.2 s.1
 cnt:s.2.length+sumN (qs.map fun q=>q.1.length)≤72
 len:qs.length≤6
 sw:∀ (k:Nat) q,qs[k]?=some q→∀ y rest o',q.1=y::rest→q.2=some o'→(takeN num den burst o' y.1 y.2).isSome=true
 bl:∀ e∈s.2,moP (e.1,e.2.1)
 bq:∀ (k:Nat) q,qs[k]?=some q→∀ y∈q.1,moP y
end
end
section
structure MoRo (Ro:HProp) (p8 ib mb qb qo nt qc k r:Nat) (a:Option Addr) (c:Nat) (l:List (Int × Nat × Nat)):Prop where
 h1:Rd [Ro] p8 0 (.slice (some ⟨qb,qo,none⟩) nt qc)
 h2:Rd [Ro] qb (qo+k) (.slice a l.length c)
 h3:∀ (i:Nat) y,l[i]?=some y→∃ b o,a=some ⟨b,o,none⟩∧Rds [Ro] b (o+3*i) [.int .i64 y.1,.int .u64 (y.2.1:Nat),.int .u64 (y.2.2:Nat)]
 h4:Rd [Ro] ib 0 (.int .i64 (k:Nat))
 h5:Rd [Ro] mb 0 (.pointer (some ⟨r,0,none⟩))
 hk:k<nt
 hl:l.length≤12
 ok:∀ y∈l,y.2.1<18446744073709551616∧y.2.2<18446744073709551616
section
variable {lb num den burst r:Nat}
end
end
section
structure ThRo (Ro:HProp) (p8 ib rb gt qb qo nt qc gb gc k r:Nat) (a:Option Addr) (c:Nat) (l:List (Int × Nat × Nat)):Prop where
 h1:Rd [Ro] p8 0 (.slice (some ⟨qb,qo,none⟩) nt qc)
 h2:Rd [Ro] qb (qo+k) (.slice a l.length c)
 h3:∀ (i:Nat) y,l[i]?=some y→∃ b o,a=some ⟨b,o,none⟩∧Rds [Ro] b (o+3*i) [.int .i64 y.1,.int .u64 (y.2.1:Nat),.int .u64 (y.2.2:Nat)]
 h4:Rd [Ro] ib 0 (.int .i64 (k:Nat))
 h5:Rd [Ro] rb 0 (.pointer (some ⟨r,0,none⟩))
 h6:Rd [Ro] gt 0 (.slice (some ⟨gb,0,none⟩) nt gc)
 hk:k<nt
 hl:l.length≤12
 ok:∀ y∈l,(-9223372036854775808≤y.1∧y.1≤9223372036854775807)∧y.2.1<18446744073709551616∧y.2.2<18446744073709551616
section
variable {num den burst r gb k:Nat} {sb says turn fin wg:Nat}
end
end
end Go.Proofs.Ythoefhocecdlhaa
namespace Go.Proofs.Ythoefhocecdlhaa
open Go Go.PB
attribute [local irreducible] Mo Bin Eql Tr Wo Ap
section
theorem mo_sliceHd {P:Program} {e:Env} {ty:TypeId} {L:List HProp} {t el sz n c u:Nat} {a:Option Addr} {k:IntKind} {j:Int} {o hi:Operand} [p:SlT P t el] [s:Siz P el sz] (hx:ev e o=some (.slice a n c)) (hh:ev e hi=some (.int k j)) (hj:j=(u:Nat)) (hu:u≤c) :
  Mo P e (.slice t o none (some hi) none) ty L fun v' L'=>v'=.slice a u c∧L'=L:=by
 have h:=mo_slice (P:=P) (e:=e) (ty:=ty) (L:=L) (t:=t) (l:=0) (u:=u) hx .no (.yes hh hj) (Nat.zero_le _) hu
 have e1:(if c=0 then a else a.map (·.add (0*sz)))=a:=by
  split
  ·rfl
  ·cases a with
   | none=>rfl
   | some y=>simp [Addr.add]
 rw [e1] at h
 exact h
abbrev RW:=Option Addr × Nat × List (Int × Nat × Nat)
def rv (y:RW):Value:=.slice y.1 y.2.2.length y.2.1
def ThsAt (L:List HProp) (a:Option Addr) (rs:List RW):Prop:=∀ (i:Nat) y,rs[i]?=some y→∃ b o,a=some ⟨b,o,none⟩∧Rd L b (o+i) (rv y)∧DoAt L y.1 y.2.2∧y.2.2.length≤y.2.1
def cutR (y:RW):RW:=(y.1,y.2.1,y.2.2.take 12)
def fewR (rs:List RW):List RW:=if rs=[] then [(none,0,[])] else (rs.take 6).map cutR
section
variable {B:Hand} [Lets B] {L F:List HProp} {x:B.X}
def fewInv (x:B.X) (a:Option Addr) (c:Nat) (rs:List RW) (L:List HProp):Inv (Nat × Value) B.X where
 e:=fun i=>[(0,.slice a rs.length c),(3,i.2),(4,.int .i64 (i.1:Nat))]
 L:=fun i=>vec 1 i.2 (((rs.take i.1).map cutR).map rv)::L
 x:=fun _=>x
 ok:=fun i=>i.1≤rs.length∧i.1≤6
theorem few_tr {a:Option Addr} {c:Nat} {rs:List RW} (hr:ThsAt L a rs) :
  Tr Try.prog B 26 [.slice a rs.length c] L x fun v L' x'=>L'=vec 1 v ((fewR rs).map rv)::L∧x'=x:=by
 refine Tr.post (R:=fun v L' x'=>x'=x∧∀ h,Star L' h→Star (vec 1 v ((fewR rs).map rv)::L) h) ?_
  (by rintro v L' x' ⟨rfl,h2⟩;exact ⟨_,⟨rfl,rfl⟩,h2⟩)
 refine tr_of_body Try.func26 rfl Try.ntmps26 (by simp) fun um Q _ hQ=>?_
 simp only [argE,Nat.zero_add,Nat.reduceAdd]
 repeat (first | refine we_seq ?_ | (refine wR ?_;try simp only [oS]) | refine wo_nil ?_ | refine wA ?_ | refine we_block ?_)
 refine we_star (vec 1 (.slice none 0 0) (((rs.take 0).map cutR).map rv)::L) (fun h st=>vec_nil st) ?_
 refine we_loopN (fewInv x a c rs L) (fun i=>rs.length-i.1) (0,.slice none 0 0) ⟨Nat.zero_le _,Nat.zero_le _⟩ ⟨rfl,rfl,rfl,trivial⟩ .refl rfl ?_
 rintro ⟨i,v⟩ ⟨hil,hi4⟩
 simp only at hil hi4
 simp only [fewInv]
 refine we_pure (of_has .here (vec_shape (by omega))) ?_
 rintro ⟨va,vn,vc,rfl,hvn,_⟩
 have hvn:vn=i:=by simp at hvn;omega
 subst hvn
 by_cases hgo:vn<rs.length∧vn<6
 ·obtain ⟨hlt,h4⟩:=hgo
  obtain ⟨y,hy⟩:∃ k,rs[vn]?=some k:=⟨rs[vn],List.getElem?_eq_getElem hlt⟩
  obtain ⟨b,o,rfl,hrd,hdo,hcap⟩:=hr vn y hy
  obtain ⟨ya,yc,yl⟩:=y
  simp only [rv] at hrd hdo hcap
  have hrk:∀ {d:HProp},Rd (d::L) b (o+vn) (.slice ya yl.length yc):=fun {d}=>.there hrd
  have hmin:min (yl.length:Int) 12=((yl.take 12).length:Nat):=by rw [List.length_take];omega
  have hle16:(yl.take 12).length≤yc:=by rw [List.length_take];omega
  repeat (first | refine wlssT ?_ | refine we_seq ?_ | (refine wR ?_;try simp only [oS]) | refine wo_nil ?_ | refine wM ?_ | refine wK ?_ | refine wE ?_ | refine wT ?_ | refine we_skip ?_ | refine we_block ?_)
  refine we_draw (List.range' 0 15) (by kernel_rfl) ?_
  repeat (first | (apply ap_pure;exact rfl;exact rfl;exact trivial;intro L;apply mo_index1;exact rfl;exact rfl;omega) | (apply ap_read;exact rfl;exact rfl;exact trivial;apply mo_load;exact rfl;exact hrk) | (apply ap_pure;exact rfl;exact rfl;exact trivial;intro L;apply mo_min;exact rfl;exact rfl) | (apply ap_pure;exact rfl;exact rfl;exact trivial;intro L;apply mo_sliceHd;exact rfl;exact rfl;exact hmin;exact hle16) | refine aM ?_ | (apply ap_pure;exact rfl;exact rfl;exact gY;intro L;apply mo_len;exact rfl))
  refine ap_loudR rfl rfl rfl rfl trivial (mo_buildSlice (sz:=1) (vs:=[.slice ya (yl.take 12).length yc]) rfl (.cons rfl .nil) rfl (by intro v hv;cases (List.mem_singleton.1 hv);exact rfl) (by omega)) ?_ ?_
  ·rintro v L' ⟨sb2,rfl,rfl⟩ p hp
   replace hp:=(List.mem_filter.1 hp).1
   simp only [List.mem_cons,List.not_mem_nil,or_false] at hp
   repeat (rcases hp with rfl | hp;· first | exact .inl rfl | exact .inr ⟨_,rfl,trivial,mo_load rfl (Rd.there hrk)⟩)
   all_goals first | (subst hp;first | exact .inl rfl | exact .inr ⟨_,rfl,trivial,mo_load rfl (Rd.there hrk)⟩)
  rintro v' L' ⟨sb2,rfl,rfl⟩
  refine ap_loud rfl rfl rfl rfl rfl trivial (mo_append (sz:=1) (new:=[.slice ya (yl.take 12).length yc]) rfl rfl rfl rfl (.there .here) rfl (.inr ⟨_,_,rfl,Rds.all .here⟩) (by intro v hv;cases (List.mem_singleton.1 hv);exact rfl) (by simp only [sliceLen];omega)) ?_
  rintro v' L' rfl
  repeat (first | refine aA ?_ | refine ap_end ?_)
  repeat (first | (refine wR ?_;try simp only [oS]) | refine wo_nil ?_ | refine wM ?_ | refine wA ?_ | refine wadd ?_)
  refine at_round (I:=fewInv x (some ⟨b,o,none⟩) c rs L) (R:=fun j=>rs.length-j.1<rs.length-vn) (vn+1,v') (by show rs.length-(vn+1)<rs.length-vn;omega) ⟨by show vn+1≤rs.length;omega,by show vn+1≤6;omega⟩ ?_ ?_ rfl
  exact ⟨rfl,rfl,rfl,trivial⟩
  show Ent _ (vec 1 v' (((rs.take (vn+1)).map cutR).map rv)::_)
  rw [show ((rs.take (vn+1)).map cutR).map rv=((rs.take vn).map cutR).map rv++[.slice ya (yl.take 12).length yc] by rw [List.take_add_one,hy];simp [cutR,rv]]
  exact (.take .here (.drop .refl))
 ·have hend:rs.take vn=rs.take 6:=by
   by_cases h4:vn=6
   ·rw [h4]
   ·have:vn=rs.length:=by omega
    rw [this,List.take_length,List.take_of_length_le (by omega)]
  rw [hend]
  by_cases h0:rs=[]
  ·subst h0
   obtain rfl:vn=0:=by simp at hil;omega
   repeat (first | (apply wo_mo;apply mo_buildSlice (sz:=1) (vs:=[.slice none 0 0]);exact rfl;exact .cons rfl .nil;exact rfl;(intro v hv;cases (List.mem_singleton.1 hv);exact rfl);omega;exact trivial) | refine wlssF ?_ | refine weqlT ?_ | refine we_seq ?_ | (refine wR ?_;try simp only [oS]) | refine wo_nil ?_ | refine wM ?_ | (apply wo_no;exact rfl) | refine wJ ?_ | refine wE ?_ | refine wT ?_ | refine wF ?_ | refine we_exit ?_)
   rintro v' L' ⟨nb,rfl,rfl⟩
   repeat (first | (apply wo_mo;apply mo_append (sz:=1) (new:=[.slice none 0 0]);exact rfl;exact rfl;exact rfl;exact rfl;exact (.there .here);exact rfl;exact .inr ⟨_,_,rfl,Rds.all .here⟩;(intro v hv;cases (List.mem_singleton.1 hv);exact rfl);(simp only [sliceLen];omega);exact trivial))
   rintro v' L' rfl
   repeat (first | refine we_seq ?_ | (refine wR ?_;try simp only [oS]) | refine wo_nil ?_ | refine wM ?_ | refine wA ?_ | refine we_ret ?_)
   (first | refine or1 Try.func26 Try.results26 hQ rfl ?_ | refine on1 Try.func26 Try.results26 hQ rfl ?_)
   exact ⟨rfl,fun h st=>Ent.star (.take .here (.drop .refl)) st⟩
  ·have he:fewR rs=(rs.take 6).map cutR:=if_neg h0
   have hpos:0<rs.length:=List.length_pos_iff.2 h0
   have hvp:0<vn:=by omega
   by_cases hv:vn<rs.length
   ·obtain rfl:vn=6:=by omega
    repeat (first | refine wlssT ?_ | refine wlssF ?_ | refine weqlF ?_ | refine we_seq ?_ | (refine wR ?_;try simp only [oS]) | refine wo_nil ?_ | refine wM ?_ | refine wA ?_ | refine wK ?_ | refine wE ?_ | refine wF ?_ | refine we_ret ?_ | refine we_skip ?_ | refine we_exit ?_)
    (first | refine or1 Try.func26 Try.results26 hQ rfl ?_ | refine on1 Try.func26 Try.results26 hQ rfl ?_)
    exact ⟨rfl,fun h st=>by rw [he];exact st⟩
   ·obtain rfl:vn=rs.length:=by omega
    repeat (first | refine wlssF ?_ | refine weqlF ?_ | refine we_seq ?_ | (refine wR ?_;try simp only [oS]) | refine wo_nil ?_ | refine wM ?_ | refine wA ?_ | (apply wo_no;exact rfl) | refine wJ ?_ | refine wE ?_ | refine wF ?_ | refine we_ret ?_ | refine we_skip ?_ | refine we_exit ?_)
    (first | refine or1 Try.func26 Try.results26 hQ rfl ?_ | refine on1 Try.func26 Try.results26 hQ rfl ?_)
    exact ⟨rfl,fun h st=>by rw [he];exact st⟩
end
end
section
def intC (l:List Int):List Value:=l.map fun k=>.int .i64 k
def orderF (m:Nat) (l:List Int):List Int:=(l.take 2000).map fun k=>k%((m:Int)+1)
section
variable {B:Hand} [Lets B] {L F:List HProp} {x:B.X}
def orderInv (x:B.X) (u:Value) (m:Nat) (l:List Int) (L:List HProp):Inv (Nat × Value) B.X where
 e:=fun i=>[(0,u),(1,.int .i64 (m:Nat)),(5,i.2),(6,.int .i64 (i.1:Nat))]
 L:=fun i=>vec 1 i.2 (intC ((l.take i.1).map fun k=>k%((m:Int)+1)))::L
 x:=fun _=>x
 ok:=fun i=>i.1≤l.length∧i.1≤2000
theorem order_tr {a:Option Addr} {c m:Nat} {l:List Int} (hr:RdsO L a l.length (intC l)) (hm:m<1000000) (hi:∀ k∈l,-9223372036854775808≤k∧k≤9223372036854775807) :
  Tr Try.prog B 30 [.slice a l.length c,.int .i64 (m:Nat)] L x fun v L' x'=>L'=vec 1 v (intC (orderF m l))::L∧x'=x:=by
 refine tr_of_body Try.func30 rfl Try.ntmps30 (by simp) fun um Q _ hQ=>?_
 simp only [argE,Nat.zero_add,Nat.reduceAdd]
 repeat (first | refine we_seq ?_ | (refine wR ?_;try simp only [oS]) | refine wo_nil ?_ | refine wA ?_ | refine we_block ?_)
 refine we_star (vec 1 (.slice none 0 0) (intC ((l.take 0).map fun k=>k%((m:Int)+1)))::L) (fun h st=>vec_nil st) ?_
 refine we_loopN (orderInv x (.slice a l.length c) m l L) (fun i=>l.length-i.1) (0,.slice none 0 0) ⟨Nat.zero_le _,Nat.zero_le _⟩ ⟨rfl,rfl,rfl,rfl,trivial⟩ .refl rfl ?_
 rintro ⟨i,v⟩ ⟨hil,hi2⟩
 simp only at hil hi2
 simp only [orderInv]
 refine we_pure (of_has .here (vec_shape (by omega))) ?_
 rintro ⟨va,vn,vc,rfl,hvn,_⟩
 have hvn:vn=i:=by simp [intC] at hvn;omega
 subst hvn
 by_cases hlt:vn<l.length
 ·by_cases h2:vn<2000
  ·obtain ⟨b,o,rfl,hrd⟩:=hr.rds (by omega)
   obtain ⟨k,hk⟩:∃ k,l[vn]?=some k:=⟨l[vn],List.getElem?_eq_getElem hlt⟩
   have hrk:∀ {d:HProp},Rd (d::L) b (o+vn) (.int .i64 k):=fun {d}=>.there (hrd vn _ (by simp [intC,hk]))
   repeat (first | (apply wo_po;apply mo_index1;exact rfl;exact rfl;omega;exact trivial) | (apply wo_po;apply mo_load;exact rfl;exact hrk;exact trivial) | refine wlssT ?_ | refine we_seq ?_ | (refine wR ?_;try simp only [oS]) | refine wo_nil ?_ | refine wM ?_ | refine wK ?_ | refine wadd ?_ | refine wE ?_ | refine wT ?_ | refine we_skip ?_ | refine we_block ?_)
   refine wo_call (.cons rfl (.cons rfl .nil)) trivial (within_tr (hi k (List.mem_of_getElem? hk)) (by omega)) ?_
   rintro v1 L1 x1 ⟨rfl,rfl,rfl⟩
   repeat (first | (apply wo_mo;apply mo_buildSlice (sz:=1) (vs:=[.int .i64 (k%((m:Int)+1))]);exact rfl;exact .cons rfl .nil;exact rfl;(intro v hv;cases (List.mem_singleton.1 hv);exact rfl);omega;exact trivial))
   rintro v' L' ⟨nb,rfl,rfl⟩
   repeat (first | (apply wo_mo;apply mo_append (sz:=1) (new:=[.int .i64 (k%((m:Int)+1))]);exact rfl;exact rfl;exact rfl;exact rfl;exact (.there .here);exact rfl;exact .inr ⟨_,_,rfl,Rds.all .here⟩;(intro v hv;cases (List.mem_singleton.1 hv);exact rfl);(simp only [sliceLen];omega);exact trivial))
   rintro v' L' rfl
   repeat (first | (refine wR ?_;try simp only [oS]) | refine wo_nil ?_ | refine wM ?_ | refine wA ?_ | refine wadd ?_)
   refine at_round (I:=orderInv x1 (.slice (some ⟨b,o,none⟩) l.length c) m l L) (R:=fun j=>l.length-j.1<l.length-vn) (vn+1,v') (by show l.length-(vn+1)<l.length-vn;omega) ⟨by omega,by omega⟩ ?_ ?_ rfl
   exact ⟨rfl,rfl,rfl,rfl,trivial⟩
   show Ent _ (vec 1 v' (intC ((l.take (vn+1)).map fun k=>k%((m:Int)+1)))::_)
   rw [show intC ((l.take (vn+1)).map fun k=>k%((m:Int)+1))=intC ((l.take vn).map fun k=>k%((m:Int)+1))++[.int .i64 (k%((m:Int)+1))] by rw [List.take_add_one,hk];simp [intC]]
   exact (.take .here (.drop .refl))
  ·obtain rfl:vn=2000:=by omega
   repeat (first | refine wlssT ?_ | refine wlssF ?_ | refine we_seq ?_ | (refine wR ?_;try simp only [oS]) | refine wo_nil ?_ | refine wM ?_ | refine wA ?_ | refine wK ?_ | refine wE ?_ | refine wF ?_ | refine we_ret ?_ | refine we_exit ?_)
   (first | refine or1 Try.func30 Try.results30 hQ rfl ?_ | refine on1 Try.func30 Try.results30 hQ rfl ?_)
   exact ⟨rfl,rfl⟩
 ·obtain rfl:vn=l.length:=by omega
  repeat (first | refine wlssF ?_ | refine we_seq ?_ | (refine wR ?_;try simp only [oS]) | refine wo_nil ?_ | refine wM ?_ | refine wA ?_ | (apply wo_no;exact rfl) | refine wJ ?_ | refine wE ?_ | refine wF ?_ | refine we_ret ?_ | refine we_exit ?_)
  (first | refine or1 Try.func30 Try.results30 hQ rfl ?_ | refine on1 Try.func30 Try.results30 hQ rfl ?_)
  refine ⟨?_,rfl⟩
  unfold orderF
  rw [List.take_of_length_le (by omega),List.take_of_length_le (by omega)]
end
end
end Go.Proofs.Ythoefhocecdlhaa
namespace Go.Proofs.Ythoefhocecdlhaa
open Go Go.PB
attribute [local irreducible] Mo Bin Eql Tr Wo Ap Wle
section
theorem row_cells {b:Nat} {v:Value} {L:List HProp}:∀ (n o:Nat) {h:Hp},Star (arr b o (List.replicate n v)::L) h→Star (all ((List.range' o n).map fun i=>arr b i [v])::L) h
 | 0,o,h,s=>star_shut (M:=[]) (star_drop s)
 | n+1,o,h,s=>by
  rw [List.replicate_succ] at s
  have s1:Star (arr b o [v]::arr b (o+1) (List.replicate n v)::L) h:=star_cut (us:=[v]) s
  rw [List.range'_succ,List.map_cons]
  exact cons_all (star_map s1 (fun _ z=>z) fun _ z=>row_cells n (o+1) z)
theorem vec_row {b o n c:Nat} {cs:List Value}:∀ h,vec 1 (.slice (some ⟨b,o,none⟩) n c) cs h→∃ sp,arr b o (cs++sp) h:=fun h z=>by
 rcases z with ⟨e,_⟩ | ⟨b',o',n',c',sp,e,h1,h2,h3,h4⟩
 ·cases e
 ·cases e;exact ⟨sp,h4⟩
end
section
section
variable {B:Hand} [Lets B] {x:B.X} {L F:List HProp}
theorem ok1103:BOk 1 10 3:=⟨by decide,by decide,by decide,by decide,by decide,by decide⟩
theorem works_tr:Tr Try.prog B 14 [] L x fun v L' x'=>v=.bool true∧L'=L∧x'=x:=by
 refine Tr.post (R:=fun v L' x'=>v=.bool true∧x'=x∧∀ h,Star L' h→Star L h) ?_ (by rintro v L' x' ⟨h0,rfl,hs⟩;exact ⟨L,⟨h0,rfl,rfl⟩,hs⟩)
 refine tr_of_body Try.func14 rfl Try.ntmps14 (by simp) fun um Q _ hQ=>?_
 simp only [argE,Nat.zero_add,Nat.reduceAdd]
 repeat (first | (apply wo_po;apply mo_build (pv:=[(0,_),(1,_),(2,_)]);exact rfl;exact .cons rfl (.cons rfl (.cons rfl .nil));exact rfl;exact trivial) | refine we_seq ?_ | (refine wR ?_;try simp only [oS]) | refine wo_nil ?_ | refine wA ?_)
 refine wo_call (.cons rfl .nil) trivial (mnew_tr (num:=1) (den:=10) (burst:=3) ok1103) ?_
 rintro v' L' x' ⟨r,rfl,rfl,rfl⟩
 refine wo_star (mC r 1 10 3 (fun _=>0)::L) (fun h st=>m_wds st) ?_
 repeat (first | refine wneqF ?_ | refine we_seq ?_ | (refine wR ?_;try simp only [oS]) | refine wo_nil ?_ | refine wM ?_ | refine wA ?_ | (apply wo_po;apply mo_extract;exact rfl;exact rfl;exact gY) | refine wF ?_ | refine we_skip ?_)
 refine wo_call (.cons rfl (.cons rfl (.cons rfl (.cons rfl .nil)))) trivial (mtake_lone (num:=1) (den:=10) (burst:=3) (now:=0) (n:=2) ok1103 (by omega) (by omega) (u:=0) (k:=some 20) rfl (by decide) .here) ?_
 rintro v' L' x' ⟨s1,rfl,hs1,rfl,rfl⟩
 replace hs1:s1 0=20:=hs1
 repeat (first | refine we_seq ?_ | (refine wR ?_;try simp only [oS]) | refine wo_nil ?_ | refine wM ?_ | refine wA ?_ | (apply wo_po;apply mo_extract;exact rfl;exact rfl;exact gY))
 refine wo_call (.cons rfl (.cons rfl (.cons rfl (.cons rfl .nil)))) trivial (mtake_lone (num:=1) (den:=10) (burst:=3) (now:=0) (n:=2) ok1103 (by omega) (by omega) (u:=20) (k:=none) hs1 (by decide) .here) ?_
 rintro v' L' x' ⟨s2,rfl,hs2,rfl,rfl⟩
 replace hs2:s2 0=20:=hs2
 repeat (first | refine we_seq ?_ | (refine wR ?_;try simp only [oS]) | refine wo_nil ?_ | refine wM ?_ | refine wA ?_ | (apply wo_po;apply mo_extract;exact rfl;exact rfl;exact gY))
 refine wo_call (.cons rfl (.cons rfl (.cons rfl (.cons rfl .nil)))) trivial (mtake_lone (num:=1) (den:=10) (burst:=3) (now:=0) (n:=1) ok1103 (by omega) (by omega) (u:=20) (k:=some 30) hs2 (by decide) .here) ?_
 rintro v' L' x' ⟨s3,rfl,hs3,rfl,rfl⟩
 replace hs3:s3 0=30:=hs3
 repeat (first | refine weqlT ?_ | refine we_seq ?_ | (refine wR ?_;try simp only [oS]) | refine wo_nil ?_ | refine wM ?_ | refine wA ?_ | refine wK ?_ | (apply wo_po;apply mo_extract;exact rfl;exact rfl;exact gY) | (apply wo_po;apply mo_not;exact rfl;exact gY) | refine we_ret ?_)
 (first | refine or1 Try.func14 Try.results14 hQ rfl ?_ | refine on1 Try.func14 Try.results14 hQ rfl ?_)
 exact ⟨rfl,rfl,fun h st=>star_drop st⟩
end
end
end Go.Proofs.Ythoefhocecdlhaa
namespace Go.Proofs.Ythoefhocecdlhaa
open Go Go.PB
attribute [local irreducible] Mo Bin Eql Tr Wo Ap Wle
attribute [local instance] Pass.of_no
section
theorem rd_lift {L:List HProp}:∀ (M:List HProp) {b o:Nat} {v:Value},Rd L b o v→Rd (M++L) b o v
 | [],b,o,v,h=>h
 | c::M,b,o,v,h=>.there (rd_lift M h)
theorem ths_lift {L:List HProp} (M:List HProp) {a:Option Addr} {rs:List RW} (h:ThsAt L a rs):ThsAt (M++L) a rs:=fun i y hy=>by
 obtain ⟨b,o,e,h1,h2,h3⟩:=h i y hy
 refine ⟨b,o,e,rd_lift M h1,⟨h2.rng,fun j z hz=>?_⟩,h3⟩
 obtain ⟨b',o',e',r1,r2,r3⟩:=h2.at_ j z hz
 exact ⟨b',o',e',rd_lift M r1,rd_lift M r2,rd_lift M r3⟩
theorem few_at {L:List HProp} {a:Option Addr} {rs:List RW} (h:ThsAt L a rs):∀ (i:Nat) y,(fewR rs)[i]?=some y→DoAt L y.1 y.2.2∧y.2.2.length≤12:=by
 intro i y hy
 unfold fewR at hy
 split at hy
 ·have:y=(none,0,[]):=by
   have:=List.mem_of_getElem? hy
   simpa using this
  subst this
  exact ⟨⟨fun z hz=>by simp at hz,fun j z hz=>by simp at hz⟩,by simp⟩
 ·rw [List.getElem?_map,Option.map_eq_some_iff] at hy
  obtain ⟨z,hz,rfl⟩:=hy
  rw [List.getElem?_take] at hz
  split at hz
  ·obtain ⟨b,o,_,_,hd,_⟩:=h i z hz
   refine ⟨⟨fun w hw=>hd.rng w (List.mem_of_mem_take hw),fun j w hw=>?_⟩,by simp only [cutR,List.length_take];omega⟩
   simp only [cutR,List.getElem?_take] at hw
   split at hw
   ·exact hd.at_ j w hw
   ·cases hw
  ·cases hz
theorem rdso_lift {L:List HProp} (M:List HProp) {a:Option Addr} {n:Nat} {vs:List Value} (h:RdsO L a n vs):RdsO (M++L) a n vs :=
 ⟨h.1,h.2.imp id fun ⟨b,o,e,r⟩=>⟨b,o,e,fun i v hi=>rd_lift M (r i v hi)⟩⟩
section
variable {B:Hand} [Lets B] {L:List HProp} {x:B.X}
theorem fit_tr {na nb nc num den burst:Nat} (h1:na<18446744073709551616) (h2:nb<18446744073709551616) (h3:nc<18446744073709551616) (e1:num=1+na%65536) (e2:den=1+nb%65536) (e3:burst=1+nc%1048576) :
  Tr Try.prog B 24 [.agg #[.int .u64 (na:Nat),.int .u64 (nb:Nat),.int .u64 (nc:Nat)]] L x fun v L' x'=>v=.agg #[.int .u64 (num:Nat),.int .u64 (den:Nat),.int .u64 (burst:Nat)]∧L'=L∧x'=x:=by
 refine Tr.post (R:=fun v L' x'=>v=.agg #[.int .u64 (num:Nat),.int .u64 (den:Nat),.int .u64 (burst:Nat)]∧x'=x∧∀ h,Star L' h→Star L h) ?_ (by rintro v L' x' ⟨h0,rfl,hs⟩;exact ⟨L,⟨h0,rfl,rfl⟩,hs⟩)
 refine tr_of_body Try.func24 rfl Try.ntmps24 (by simp) fun um Q _ hQ=>?_
 simp only [argE,Nat.zero_add,Nat.reduceAdd]
 repeat (first | (apply wo_mo;apply mo_box;exact rfl;exact trivial) | refine we_seq ?_ | (refine wR ?_;try simp only [oS]))
 rintro v' L' ⟨bx,rfl,rfl⟩
 refine wo_ent (arr bx 0 [.int .u64 (na:Nat),.int .u64 (nb:Nat),.int .u64 (nc:Nat)]::L) .refl ?_
 repeat (first | (apply wo_mo;apply mo_alloc;exact trivial))
 rintro v' L' ⟨ab,rfl,rfl⟩
 have q0:∀ {c:HProp},Rd (c::arr bx 0 [.int .u64 (na:Nat),.int .u64 (nb:Nat),.int .u64 (nc:Nat)]::L) bx 0 (.int .u64 (na:Nat)):=.there (.row (k:=0) rfl rfl)
 have q1:∀ {c:HProp},Rd (c::arr bx 0 [.int .u64 (na:Nat),.int .u64 (nb:Nat),.int .u64 (nc:Nat)]::L) bx (0+1) (.int .u64 (nb:Nat)):=.there (.row (k:=1) rfl rfl)
 have q2:∀ {c:HProp},Rd (c::arr bx 0 [.int .u64 (na:Nat),.int .u64 (nb:Nat),.int .u64 (nc:Nat)]::L) bx (0+2) (.int .u64 (nc:Nat)):=.there (.row (k:=2) rfl rfl)
 have d1:((na:Int)).tmod 65536=((na%65536:Nat):Int):=by rw [Int.tmod_eq_emod_of_nonneg (by omega)];omega
 have d2:((nb:Int)).tmod 65536=((nb%65536:Nat):Int):=by rw [Int.tmod_eq_emod_of_nonneg (by omega)];omega
 have d3:((nc:Int)).tmod 1048576=((nc%1048576:Nat):Int):=by rw [Int.tmod_eq_emod_of_nonneg (by omega)];omega
 have a1:IntKind.u64.wrap ((1:Int)+((na%65536:Nat):Int))=((num:Nat):Int):=(wrap_u64 (by omega) (by omega)).trans (by omega)
 have a2:IntKind.u64.wrap ((1:Int)+((nb%65536:Nat):Int))=((den:Nat):Int):=(wrap_u64 (by omega) (by omega)).trans (by omega)
 have a3:IntKind.u64.wrap ((1:Int)+((nc%1048576:Nat):Int))=((burst:Nat):Int):=(wrap_u64 (by omega) (by omega)).trans (by omega)
 repeat (first | (apply wo_po;apply mo_load;exact rfl;(first | exact q0 | exact q1 | exact q2);exact trivial) | (apply wo_po;apply mo_bin;exact rfl;exact rfl;apply bin_rem;omega;(first | exact d1 | exact d2 | exact d3);exact trivial) | (apply wo_po;apply mo_bin;exact rfl;exact rfl;apply bin_add;(first | exact a1 | exact a2 | exact a3);exact trivial) | (apply wo_po;apply mo_build (pv:=[(0,_),(1,_),(2,_)]);exact rfl;exact .cons rfl (.cons rfl (.cons rfl .nil));exact rfl;exact trivial) | (apply wo_pm;apply mo_storeA (b:=ab) (c:=0) (k:=0) (a:=0) (vs:=[.int .u64 0,.int .u64 0,.int .u64 0]);exact rfl;exact rfl;exact rfl;(intro w hw;simp [Value.cells] at hw;rcases hw with rfl | rfl | rfl <;> rfl);exact rfl;exact Nat.le_refl 3;exact .here;exact trivial) | refine we_seq ?_ | (refine wR ?_;try simp only [oS]) | refine wo_nil ?_ | refine wD ?_ | refine we_ret ?_)
 refine at_leaveM (rs:=[.cell 2 25]) Try.func24 Try.results24 hQ (.inl rfl) (.cons (.cell (vs:=[.int .u64 (num:Nat),.int .u64 (den:Nat),.int .u64 (burst:Nat)]) rfl rfl (Rds.all .here)) .nil) ?_
 exact ⟨rfl,rfl,fun h st=>star_drop (star_drop st)⟩
end
end
section
def rowI (rs:List RW) (i:Nat):List (Int × Nat × Nat):=match rs[i]? with | some y=>y.2.2 | none=>[]
theorem startF_qs {g:Game}:∀ {ts:List (Thr g)} {s:g.σ},(∀ t∈ts,∀ s,(t.ini s).1=s)→startF ts s=(s,ts.map fun t=>(t.ini s).2)
 | [],s,_=>rfl
 | t::ts,s,h=>by
  have h1:=h t (by simp) s
  have h2:=startF_qs (ts:=ts) (s:=s) fun u hu=>h u (by simp [hu])
  show ((startF ts (t.ini s).1).1,(t.ini s).2::(startF ts (t.ini s).1).2)=_
  rw [h1,h2];rfl
section
variable {lb num den burst r p8 mb qb qo qc:Nat} {rs:List RW} {sp:List Value} {L:List HProp} {ts:List Nat}
theorem sumN_le {l:List Nat} {c:Nat} (h:∀ a∈l,a≤c):sumN l≤c*l.length:=by
 induction l with
 | nil=>simp [sumN]
 | cons a l ih =>
  have h1:=ih fun b hb=>h b (by simp [hb])
  have h2:=h a (by simp)
  simp only [sumN,List.foldr_cons,List.length_cons,Nat.mul_add] at h1 ⊢;omega
end
end
section
def mthT (RoS:HProp) (gb db i b:Nat):HProp:=all [all [RoS,arr b 0 [.int .i64 (i:Nat)]],mtM0 gb db i]
theorem dealT {RoS:HProp} (hd:Dup RoS) {gb db:Nat} {ts:List Nat} {L:List HProp} {h:Hp} (s:Star (RoS::all (boxesM ts)::arr gb 0 (List.replicate ts.length (.slice none 0 0))::arr db 0 (List.replicate ts.length (.bool false))::L) h):Star (all (ts.mapIdx (mthT RoS gb db))::RoS::L) h:=by
 have s1:=dup_many hd s ts.length
 have s2:Star (all (List.replicate ts.length RoS)::all (boxesM ts)::arr gb 0 (List.replicate ts.length (.slice none 0 0))::arr db 0 (List.replicate ts.length (.bool false))::RoS::L) h:=Ent.star (.take .here (.take (.there .here) (.take (.there .here) (.take (.there .here) (.take .here .refl))))) s1
 have s3:=star_zip (by simp [boxesM]) s2
 have s4:=row_cells ts.length 0 (star_swap s3)
 have s4':Star (arr db 0 (List.replicate ts.length (.bool false))::_) h:=Ent.star (.take (.there (.there .here)) (.take .here (.take .here .refl))) s4
 have s5:=row_cells ts.length 0 s4'
 have s6:=star_zip (by simp) (star_swap s5)
 have s7:=star_zip (by simp [boxesM]) (star_swap s6)
 have e:List.zipWith (fun a b=>all [a,b]) (List.zipWith (fun a b=>all [a,b]) (List.replicate ts.length RoS) (boxesM ts)) (List.zipWith (fun a b=>all [a,b]) ((List.range' 0 ts.length).map fun i=>arr gb i [.slice none 0 0]) ((List.range' 0 ts.length).map fun i=>arr db i [.bool false]))=ts.mapIdx (mthT RoS gb db):=by
  apply List.ext_getElem?
  intro i
  by_cases hi:i<ts.length
  ·simp [boxesM,mthT,mtM0,hi,List.getElem?_zipWith,List.getElem?_range']
  ·have h1:(ts.mapIdx (mthT RoS gb db))[i]?=none:=List.getElem?_eq_none_iff.2 (by simp;omega)
   rw [h1]
   apply List.getElem?_eq_none_iff.2
   simp [boxesM];omega
 rw [e] at s7
 exact s7
abbrev troS (g6 p8 mb g5 db gb r qb qo qc:Nat) (rs:List RW) (sp:List Value) (L:List HProp):HProp:=all [fro g6 0 [.slice (some ⟨db,0,none⟩) rs.length rs.length],fro p8 0 [.slice (some ⟨qb,qo,none⟩) rs.length qc],fro mb 0 [.pointer (some ⟨r,0,none⟩)],fro g5 0 [.slice (some ⟨gb,0,none⟩) rs.length rs.length],fro qb qo (rs.map rv++sp),all L]
def tthrs (gb db num den burst r g6 p8 mb g5:Nat) (RoS:HProp) (rs:List RW) (ts:List Nat):List (Thr ((mtG gb db num den burst).g (mAddr r) 1 (mK r num den burst))):=ts.mapIdx fun i b=>{ fv:=mtF g6 b p8 mb g5,ini:=fun s=>(s,(show ((mtG gb db num den burst).g (mAddr r) 1 (mK r num den burst)).θ from (⟨mtL (rowI rs i),true,0,[],.tL,i⟩:MtQ))),M:=mthT RoS gb db i b }
section
variable {gb db num den burst r g6 p8 mb g5 qb qo qc:Nat} {rs:List RW} {sp:List Value} {L:List HProp} {ts:List Nat}
theorem tthrs_ok (B:BOk num den burst) (hrow:∀ (i:Nat) y,rs[i]?=some y→DoAt L y.1 y.2.2∧y.2.2.length≤12) (hts:ts.length=rs.length):∀ t∈tthrs gb db num den burst r g6 p8 mb g5 (troS g6 p8 mb g5 db gb r qb qo qc rs sp L) rs ts,ThrOk ((mtG gb db num den burst).g (mAddr r) 1 (mK r num den burst)) t.ini t.fv t.M:=by
 intro t ht
 obtain ⟨i,hi⟩:=List.mem_iff_getElem?.1 ht
 simp only [tthrs,List.getElem?_mapIdx,Option.map_eq_some_iff] at hi
 obtain ⟨y,hy,rfl⟩:=hi
 have hil:=(List.getElem?_eq_some_iff.1 hy).1
 obtain ⟨z,hz⟩:∃ z,rs[i]?=some z:=⟨rs[i]'(by omega),List.getElem?_eq_getElem (by omega)⟩
 obtain ⟨hdo,h12⟩:=hrow i z hz
 have er:rowI rs i=z.2.2:=by unfold rowI;rw [hz]
 have lift:∀ {b1 o v},Rd [fro g6 0 [.slice (some ⟨db,0,none⟩) rs.length rs.length],fro p8 0 [.slice (some ⟨qb,qo,none⟩) rs.length qc],fro mb 0 [.pointer (some ⟨r,0,none⟩)],fro g5 0 [.slice (some ⟨gb,0,none⟩) rs.length rs.length],fro qb qo (rs.map rv++sp),all L] b1 o v→Rd [all [troS g6 p8 mb g5 db gb r qb qo qc rs sp L,arr y 0 [.int .i64 (i:Nat)]]] b1 o v:=fun h=>rd_all (rd_all h)
 have O:MtRo (all [troS g6 p8 mb g5 db gb r qb qo qc rs sp L,arr y 0 [.int .i64 (i:Nat)]]) g6 y p8 mb g5 db gb qb qo rs.length qc i r z.1 z.2.1 z.2.2 :=
  {
   h1:=lift (Rd.fro (k:=0) rfl rfl)
   h2:=rd_all (.there (.row0 rfl))
   h3:=lift (.there (Rd.fro (k:=0) rfl rfl))
   h4:=lift (.there (.there (.there (.there (Rd.fro (k:=i) (by rw [List.getElem?_append_left (by rw [List.length_map];omega),List.getElem?_map,hz];rfl) rfl)))))
   h5:=fun q w hw=>by
    obtain ⟨b',o',e,r1,r2,r3⟩:=hdo.at_ q w hw
    refine ⟨b',o',e,fun m v hm=>?_⟩
    match m,hm with
    | 0,hm=>cases hm;exact lift (.there (.there (.there (.there (.there (rd_all r1))))))
    | 1,hm=>cases hm;exact lift (.there (.there (.there (.there (.there (rd_all r2))))))
    | 2,hm=>cases hm;exact lift (.there (.there (.there (.there (.there (rd_all r3))))))
   h6:=lift (.there (.there (Rd.fro (k:=0) rfl rfl)))
   h7:=lift (.there (.there (.there (Rd.fro (k:=0) rfl rfl))))
   hk:=by omega
   hl:=h12
   ok:=fun y hy=>(hdo.rng y hy).2 }
 show ThrOk ((mtG gb db num den burst).g (mAddr r) 1 (mK r num den burst)) (fun s=>(s,(⟨mtL (rowI rs i),true,0,[],.tL,i⟩:MtQ))) (mtF g6 y p8 mb g5) (mthT _ gb db i y)
 rw [er]
 exact mt_ok B O
theorem tthrs_M {RoS:HProp}:(tthrs gb db num den burst r g6 p8 mb g5 RoS rs ts).map Thr.M=ts.mapIdx (mthT RoS gb db):=by
 apply List.ext_getElem?
 intro k
 simp only [tthrs,List.getElem?_map,List.getElem?_mapIdx]
 cases ts[k]? <;> rfl
theorem tthrs_fv {RoS:HProp}:(tthrs gb db num den burst r g6 p8 mb g5 RoS rs ts).map Thr.fv=ts.map fun b=>mtF g6 b p8 mb g5:=by
 apply List.ext_getElem?
 intro k
 simp only [tthrs,List.getElem?_map,List.getElem?_mapIdx]
 cases ts[k]? <;> rfl
theorem tthrs_ini {RoS:HProp}:∀ t∈tthrs gb db num den burst r g6 p8 mb g5 RoS rs ts,∀ s,(t.ini s).1=s:=fun t ht s=>by
 obtain ⟨i,hi⟩:=List.mem_iff_getElem?.1 ht
 simp only [tthrs,List.getElem?_mapIdx,Option.map_eq_some_iff] at hi
 obtain ⟨y,hy,rfl⟩:=hi
 rfl
def mtQs (rs:List RW) (ts:List Nat):List MtQ:=ts.mapIdx fun i _=>(⟨mtL (rowI rs i),true,0,[],.tL,i⟩:MtQ)
theorem tthrs_start {RoS:HProp} {s:Nat}:startF (tthrs gb db num den burst r g6 p8 mb g5 RoS rs ts) (show ((mtG gb db num den burst).g (mAddr r) 1 (mK r num den burst)).σ from s)=(s,mtQs rs ts):=by
 rw [startF_qs tthrs_ini]
 congr 1
 apply List.ext_getElem?
 intro k
 show ((tthrs gb db num den burst r g6 p8 mb g5 RoS rs ts).map fun t=>(t.ini s).2)[k]?=(mtQs rs ts)[k]?
 rw [List.getElem?_map]
 unfold tthrs mtQs
 rw [List.getElem?_mapIdx,List.getElem?_mapIdx]
 cases ts[k]? <;> rfl
theorem mtL_ok (hrow:∀ (i:Nat) y,rs[i]?=some y→DoAt L y.1 y.2.2∧y.2.2.length≤12) (i:Nat):(mtL (rowI rs i)).length≤12∧∀ y∈mtL (rowI rs i),mtP y:=by
 unfold rowI
 cases h:rs[i]? with
 | none=>exact ⟨by simp [mtL],fun y hy=>by simp [mtL] at hy⟩
 | some y =>
  obtain ⟨h1,h2⟩:=hrow i y h
  refine ⟨by simpa [mtL] using h2,fun z hz=>?_⟩
  obtain ⟨w,hw,rfl⟩:=List.mem_map.1 hz
  exact ⟨by show w.2.1%1099511627776≤_;omega,by show w.2.2%64<64;omega⟩
def callN (rs:List RW):Nat:=sumN (rs.map fun y=>y.2.2.length)
theorem sumN_nil0 {α:Type} {φ:α→Nat} {l:List α} (h:∀ a∈l,φ a=0):sumN (l.map φ)=0:=by
 induction l with
 | nil=>simp [sumN]
 | cons a l ih =>
  have h1:=ih fun b hb=>h b (by simp [hb])
  have h2:=h a (by simp)
  simp only [List.map_cons,sumN,List.foldr_cons] at h1 ⊢;omega
theorem sumN_mul {α:Type} {φ ψ:α→Nat} {c:Nat} {l:List α} (h:∀ a∈l,φ a=c*ψ a):sumN (l.map φ)=c*sumN (l.map ψ):=by
 induction l with
 | nil=>simp [sumN]
 | cons a l ih =>
  have h1:=ih fun b hb=>h b (by simp [hb])
  have h2:=h a (by simp)
  simp only [List.map_cons,sumN,List.foldr_cons,Nat.mul_add] at h1 ⊢;omega
theorem sumN_mono {α:Type} {φ ψ:α→Nat} {l:List α} (h:∀ a∈l,φ a≤ψ a):sumN (l.map φ)≤sumN (l.map ψ):=by
 induction l with
 | nil=>simp [sumN]
 | cons a l ih =>
  have h1:=ih fun b hb=>h b (by simp [hb])
  have h2:=h a (by simp)
  simp only [List.map_cons,sumN,List.foldr_cons] at h1 ⊢;omega
theorem mt_I0 (hrow:∀ (i:Nat) y,rs[i]?=some y→DoAt L y.1 y.2.2∧y.2.2.length≤12) (hts:ts.length=rs.length) (h6:rs.length≤6):∃ M,M≤callN rs∧MtI num den burst M 0 (mtQs rs ts)∧sumN ((mtQs rs ts).map (mtφ M 0))=(2*M+1)*callN rs∧callN rs≤72:=by
 have hlen:(mtQs rs ts).length=rs.length:=by simp [mtQs,hts]
 have hmem:∀ q∈mtQs rs ts,∃ i,q=(⟨mtL (rowI rs i),true,0,[],.tL,i⟩:MtQ):=fun q hq=>by
  obtain ⟨k,hk⟩:=List.mem_iff_getElem?.1 hq
  simp only [mtQs,List.getElem?_mapIdx,Option.map_eq_some_iff] at hk
  obtain ⟨y,_,rfl⟩:=hk
  exact ⟨k,rfl⟩
 have hC:sumN ((mtQs rs ts).map fun q=>q.rl.length)=callN rs:=by
  unfold callN
  congr 1
  apply List.ext_getElem?
  intro k
  simp only [mtQs,List.getElem?_map,List.getElem?_mapIdx]
  by_cases hk:k<rs.length
  ·rw [List.getElem?_eq_getElem (by omega:k<ts.length),List.getElem?_eq_getElem hk]
   simp [mtL,rowI,List.getElem?_eq_getElem hk]
  ·rw [List.getElem?_eq_none (by omega),List.getElem?_eq_none (by omega)];rfl
 obtain ⟨M,hM⟩:∃ M,sumN ((mtQs rs ts).map mtAct)=M:=⟨_,rfl⟩
 refine ⟨M,?_,⟨by omega,by omega,fun k q hq=>?_,fun f t=>?_⟩,?_,?_⟩
 ·rw [← hM,← hC]
  exact sumN_mono fun q _=>by
   unfold mtAct
   split
   ·exact Nat.zero_le _
   ·rename_i h;exact List.length_pos_iff.2 h
 ·obtain ⟨i,rfl⟩:=hmem q (List.mem_of_getElem? hq)
  obtain ⟨h1,h2⟩:=mtL_ok hrow i
  exact ⟨rfl,Nat.zero_le _,fun o y r h=>(by cases h),h2,fun y hy=>by simp at hy,by simpa using h1,fun _=>rfl⟩
 ·left
  exact sumN_nil0 fun q hq=>by obtain ⟨i,rfl⟩:=hmem q hq;simp [mtW,mtPend,gsum,sumN]
 ·rw [← hC]
  refine sumN_mul fun q hq=>?_
  obtain ⟨i,rfl⟩:=hmem q hq
  simp only [mtφ]
  cases mtL (rowI rs i) with
  | nil=>simp
  | cons a l=>simp only [List.length_cons,Nat.mul_add,Nat.mul_one]
 ·rw [← hC]
  have:=sumN_le (c:=12) (l:=(mtQs rs ts).map fun q=>q.rl.length) fun a ha=>by
   obtain ⟨q,hq,rfl⟩:=List.mem_map.1 ha
   obtain ⟨i,rfl⟩:=hmem q hq
   exact (mtL_ok hrow i).1
  rw [List.length_map] at this
  omega
def mtPI (M:Nat) (ks:List Nat) (p:PS ((mtG gb db num den burst).g (mAddr r) 1 (mK r num den burst))):Prop:=MtI num den burst M p.s p.qs∧(show List MtQ from p.qs).map MtQ.k=ks
theorem mk_set {qs:List MtQ} {m:Nat} {q q':MtQ} (hq:qs[m]?=some q) (h:q'.k=q.k):(qs.set m q').map MtQ.k=qs.map MtQ.k:=by
 have hlt:m<qs.length:=(List.getElem?_eq_some_iff.1 hq).1
 rw [List.map_set,h]
 apply List.ext_getElem?
 intro j
 rw [List.getElem?_set]
 split
 ·rename_i hj
  subst hj
  rw [if_pos (by rw [List.length_map];exact hlt),List.getElem?_map,hq];rfl
 ·rfl
theorem mt_plays {RoS:HProp} {M:Nat} (B:BOk num den burst) (i0:MtI num den burst M 0 (mtQs rs ts)) (f0:sumN ((mtQs rs ts).map (mtφ M 0))=(2*M+1)*callN rs) (hlt:(2*M+1)*callN rs<16384) (o:List Int) :
  (∀ (p:PS ((mtG gb db num den burst).g (mAddr r) 1 (mK r num den burst))) k,mtPI M ((mtQs rs ts).map MtQ.k) p→mtPI M ((mtQs rs ts).map MtQ.k) (takeF p k).1)∧mtPI (gb:=gb) (db:=db) (r:=r) (num:=num) (den:=den) (burst:=burst) M ((mtQs rs ts).map MtQ.k) ⟨(startF (tthrs gb db num den burst r g6 p8 mb g5 RoS rs ts) (show ((mtG gb db num den burst).g (mAddr r) 1 (mK r num den burst)).σ from (0:Nat))).1,(startF (tthrs gb db num den burst r g6 p8 mb g5 RoS rs ts) (show ((mtG gb db num den burst).g (mAddr r) 1 (mK r num den burst)).σ from (0:Nat))).2,[]⟩ ∧
  mtPI M ((mtQs rs ts).map MtQ.k) (playF (tthrs gb db num den burst r g6 p8 mb g5 RoS rs ts) (show ((mtG gb db num den burst).g (mAddr r) 1 (mK r num den burst)).σ from (0:Nat)) o)∧(playF (tthrs gb db num den burst r g6 p8 mb g5 RoS rs ts) (show ((mtG gb db num den burst).g (mAddr r) 1 (mK r num den burst)).σ from (0:Nat)) o).tr.length≤(2*M+1)*callN rs ∧
  (∀ q∈(show List MtQ from (playF (tthrs gb db num den burst r g6 p8 mb g5 RoS rs ts) (show ((mtG gb db num den burst).g (mAddr r) 1 (mK r num den burst)).σ from (0:Nat)) o).qs),q.rl=[]) ∧
  cutN ((mtG gb db num den burst).g (mAddr r) 1 (mK r num den burst)) (playF (tthrs gb db num den burst r g6 p8 mb g5 RoS rs ts) (show ((mtG gb db num den burst).g (mAddr r) 1 (mK r num den burst)).σ from (0:Nat)) o).qs (tthrs gb db num den burst r g6 p8 mb g5 RoS rs ts).length=[]:=by
 have hs:∀ (p:PS ((mtG gb db num den burst).g (mAddr r) 1 (mK r num den burst))) k,mtPI M ((mtQs rs ts).map MtQ.k) p→mtPI M ((mtQs rs ts).map MtQ.k) (takeF p k).1∧((takeF p k).2=true→sumN ((show List MtQ from (takeF p k).1.qs).map (mtφ M (show Nat from (takeF p k).1.s)))+1≤sumN ((show List MtQ from p.qs).map (mtφ M (show Nat from p.s)))):=fun p k h=>by
  rcases takeF_cases p k with e | ⟨m,q,mk,f,_,hq,hp,_,e⟩
  ·rw [e];exact ⟨h,fun h=>by cases h⟩
  ·rw [e]
   obtain ⟨a,b⟩:=mt_step B h.1 hq hp
   refine ⟨⟨a,?_⟩,fun _=>b⟩
   have hb:=mt_k hp p.s
   rw [← h.2]
   exact mk_set hq hb
 have hI0:mtPI (gb:=gb) (db:=db) (r:=r) (num:=num) (den:=den) (burst:=burst) M ((mtQs rs ts).map MtQ.k) ⟨(startF (tthrs gb db num den burst r g6 p8 mb g5 RoS rs ts) (show ((mtG gb db num den burst).g (mAddr r) 1 (mK r num den burst)).σ from (0:Nat))).1,(startF (tthrs gb db num den burst r g6 p8 mb g5 RoS rs ts) (show ((mtG gb db num den burst).g (mAddr r) 1 (mK r num den burst)).σ from (0:Nat))).2,[]⟩:=by
  rw [tthrs_start];exact ⟨i0,rfl⟩
 obtain ⟨hI,htr,hdone⟩:=play_ends (I:=mtPI M ((mtQs rs ts).map MtQ.k)) (Φ:=fun p=>sumN ((show List MtQ from p.qs).map (mtφ M (show Nat from p.s)))) (ts:=tthrs gb db num den burst r g6 p8 mb g5 RoS rs ts) (s:=(show ((mtG gb db num den burst).g (mAddr r) 1 (mK r num den burst)).σ from (0:Nat))) (o:=o) (n:=(2*M+1)*callN rs) (fun p k h=>(hs p k h).1) (fun p k h=>(hs p k h).2) hI0 (by rw [tthrs_start];exact Nat.le_of_eq f0) hlt
 refine ⟨fun p k h=>(hs p k h).1,hI0,hI,htr,fun q hq=>?_,cutN_nil hdone⟩
 obtain ⟨k,hk⟩:=List.mem_iff_getElem?.1 hq
 have hd:mtPlan num den burst q=none:=hdone k q hk
 revert hd
 unfold mtPlan
 cases q.rl with
 | nil=>exact fun _=>rfl
 | cons a l=>intro h;cases h
theorem gsum_flat {f t:Nat}:∀ {l:List (List (Nat × Nat))},gsum f t l.flatten=sumN (l.map (gsum f t))
 | []=>by simp [gsum,sumN]
 | a::l=>by
  rw [List.flatten_cons,gsum_app,gsum_flat (l:=l)];rfl
theorem mt_still {M s:Nat} {qs:List MtQ} (B:BOk num den burst) (I:MtI num den burst M s qs) (h:∀ q∈qs,q.rl=[]):(∀ q∈qs,q.good=true∧q.gr.length≤12∧∀ y∈q.gr,mtP y)∧∀ f t,f≤t→gsum f t (qs.map MtQ.gr).flatten≤burst+(t-f)*num/den:=by
 have hT:∀ q∈qs,MtT num den burst s q:=fun q hq=>by
  obtain ⟨k,hk⟩:=List.mem_iff_getElem?.1 hq
  exact I.th k q hk
 refine ⟨fun q hq=>⟨(hT q hq).good,by have:=(hT q hq).cnt;omega,(hT q hq).b2⟩,fun f t hft=>?_⟩
 have e:sumN (qs.map (mtW f t))=gsum f t (qs.map MtQ.gr).flatten:=by
  rw [gsum_flat,List.map_map]
  congr 1
  apply List.map_congr_left
  intro q hq
  show gsum f t (q.gr++mtPend q)=gsum f t q.gr
  have:mtPend q=[]:=by unfold mtPend;rw [(hT q hq).ov (h q hq)]
  rw [this,List.append_nil]
 have hW:=I.W f t
 rw [e] at hW
 exact fits_of B hft (hW.imp id fun h=>h.2)
end
end
section
def mtCalls (bb pb3 qb qo qc gb db:Nat) (rs:List RW) (R:List HProp):PB.Inv Nat MX where
 e:=fun i=>[(7,.pointer (some ⟨bb,0,none⟩)),(9,.int .i64 0),(10,.slice (some ⟨qb,qo,none⟩) rs.length qc),(12,.slice (some ⟨gb,0,none⟩) rs.length rs.length),(13,.slice (some ⟨db,0,none⟩) rs.length rs.length),(14,.pointer (some ⟨pb3,0,none⟩)),(15,.int .i64 (callN (rs.take i):Nat)),(16,.int .i64 (i:Nat))]
 L:=fun _=>R
 x:=fun _=>.idle
 ok:=fun i=>i≤rs.length
theorem callN_take {rs:List RW} {i:Nat} {y:RW} (h:rs[i]?=some y):callN (rs.take (i+1))=callN (rs.take i)+y.2.2.length:=by
 unfold callN
 rw [List.take_add_one,h,Option.toList_some,List.map_append,sumN_app]
 simp [sumN]
theorem callN_le {rs:List RW} {i:Nat}:callN (rs.take i)≤callN rs:=by
 have:callN rs=callN (rs.take i)+callN (rs.drop i):=by
  unfold callN
  rw [← sumN_app,← List.map_append,List.take_append_drop]
 omega
set_option maxHeartbeats 4000000 in
theorem mturns_tr {L:List HProp} {na nb nc:Nat} {ta oa:Option Addr} {tc oc:Nat} {rs0:List RW} {order:List Int} (hL:Dup (all L)) (h1:na<18446744073709551616) (h2:nb<18446744073709551616) (h3:nc<18446744073709551616) (hr0:ThsAt L ta rs0) (hro:RdsO L oa order.length (intC order)) (hoi:∀ k∈order,-9223372036854775808≤k∧k≤9223372036854775807) :
  Tr Try.prog mT 6 [.agg #[.int .u64 (na:Nat),.int .u64 (nb:Nat),.int .u64 (nc:Nat)],.slice ta rs0.length tc,.slice oa order.length oc] L .idle fun v L' x'=>v=.bool true∧x'=.idle:=by
 refine tr_of_body Try.func6 rfl Try.ntmps6 (by simp) fun um Q _ hQ=>?_
 simp only [argE,Nat.zero_add,Nat.reduceAdd]
 obtain ⟨num,hnum⟩:∃ num,num=1+na%65536:=⟨_,rfl⟩
 obtain ⟨den,hden⟩:∃ den,den=1+nb%65536:=⟨_,rfl⟩
 obtain ⟨burst,hburst⟩:∃ burst,burst=1+nc%1048576:=⟨_,rfl⟩
 have B:BOk num den burst:=⟨by omega,by omega,by omega,by omega,by omega,by omega⟩
 repeat (first | (apply wo_mo;apply mo_box;exact rfl;exact trivial) | refine we_seq ?_ | (refine wR ?_;try simp only [oS]))
 rintro v' L' ⟨bx,rfl,rfl⟩
 refine wo_ent (arr bx 0 [.int .u64 (na:Nat),.int .u64 (nb:Nat),.int .u64 (nc:Nat)]::L) .refl ?_
 repeat (first | (apply wo_po;apply mo_loadA (vs:=[.int .u64 (na:Nat),.int .u64 (nb:Nat),.int .u64 (nc:Nat)]);exact rfl;exact rfl;exact Rds.all .here;exact trivial) | refine we_seq ?_ | (refine wR ?_;try simp only [oS]) | refine wo_nil ?_ | refine wA ?_)
 refine wo_call (.cons rfl .nil) trivial (fit_tr (num:=num) (den:=den) (burst:=burst) h1 h2 h3 hnum hden hburst) ?_
 rintro v1 L1 x1 ⟨rfl,rfl,rfl⟩
 repeat (first | (apply wo_mo;apply mo_alloc;exact trivial))
 rintro v' L' ⟨bb,rfl,rfl⟩
 repeat (first | (apply wo_pm;apply mo_storeA (b:=bb) (c:=0) (k:=0) (a:=0) (vs:=[.int .u64 0,.int .u64 0,.int .u64 0]);exact rfl;exact rfl;exact rfl;(intro w hw;simp [Value.cells] at hw;rcases hw with rfl | rfl | rfl <;> rfl);exact rfl;exact Nat.le_refl 3;exact .here;exact trivial) | (apply wo_po;apply mo_loadA (vs:=[.int .u64 (num:Nat),.int .u64 (den:Nat),.int .u64 (burst:Nat)]);exact rfl;exact rfl;exact Rds.all .here;exact trivial) | refine we_seq ?_ | (refine wR ?_;try simp only [oS]) | refine wo_nil ?_)
 refine wo_call (.cons rfl .nil) trivial (mnew_tr B) ?_
 rintro v' L' x' ⟨r,rfl,rfl,rfl⟩
 refine wo_star (mC r num den burst (fun _=>0)::arr bb 0 [.int .u64 (num:Nat),.int .u64 (den:Nat),.int .u64 (burst:Nat)]::arr bx 0 [.int .u64 (na:Nat),.int .u64 (nb:Nat),.int .u64 (nc:Nat)]::L) (fun h st=>m_wds st) ?_
 repeat (first | refine wneqF ?_ | refine we_seq ?_ | (refine wR ?_;try simp only [oS]) | refine wo_nil ?_ | refine wM ?_ | refine wA ?_ | (apply wo_po;apply mo_extract;exact rfl;exact rfl;exact gY))
 refine wo_call .nil rfl works_tr ?_
 rintro v1 L1 x1 ⟨rfl,rfl,rfl⟩
 repeat (first | refine we_seq ?_ | (refine wR ?_;try simp only [oS]) | refine wo_nil ?_ | refine wM ?_ | refine wJ ?_ | (apply wo_po;apply mo_not;exact rfl;exact gY) | refine wF ?_ | refine we_skip ?_)
 refine wo_call (.cons rfl .nil) trivial (few_tr (ths_lift [_,_,_] hr0)) ?_
 rintro qv L2 x1 ⟨rfl,rfl⟩
 have hrs:0<(fewR rs0).length∧(fewR rs0).length≤6:=by
  unfold fewR
  split
  ·simp
  ·rename_i h0
   have:=List.length_pos_iff.2 h0
   simp only [List.length_map,List.length_take];omega
 have hrow:=few_at hr0
 generalize hrsd:fewR rs0=rs at hrs hrow
 refine wo_pure (of_has .here (vec_shape (by omega))) ?_
 rintro ⟨qa,qn,qc,rfl,hqn,_,hqz,hqy⟩
 have hqn:qn=rs.length:=by simp at hqn;omega
 subst hqn
 cases qa with
 | none=>have:=hqz rfl;omega
 | some ad =>
 obtain ⟨qb,qo,sp⟩:=ad
 have:=hqy _ rfl
 simp only [Addr.mk.injEq,true_and] at this
 subst this
 repeat (first | refine we_seq ?_ | (refine wR ?_;try simp only [oS]) | refine wo_nil ?_ | refine wM ?_ | refine wA ?_)
 refine wo_call (.cons rfl (.cons rfl .nil)) trivial (mtakes_tr (r:=r) (qb:=qb) (qo:=qo) (qc:=qc) hrs.2) ?_
 rintro v1 L1 x1 ⟨mb,p8,g5,g6,gb,db,tv,ts,rfl,hts,rfl,rfl⟩
 refine wo_pure (of_has .here (vec_shape (by omega))) ?_
 rintro ⟨tva,tvn,tvc,rfl,htvn,_,htz,hty⟩
 have htvn:tvn=rs.length:=by simp at htvn;omega
 subst htvn
 repeat (first | refine we_seq ?_ | (refine wR ?_;try simp only [oS]) | refine wo_nil ?_ | refine wM ?_ | refine wA ?_ | (apply wo_po;apply mo_extract;exact rfl;exact rfl;exact gY) | refine wE ?_)
 refine wo_call (.cons rfl (.cons rfl .nil)) trivial (order_tr (m:=rs.length) (rdso_lift [_,_,_,_,_,_,_,_,_,_,_,_] hro) (by omega) hoi) ?_
 rintro odv L1 x1 ⟨rfl,rfl⟩
 refine wo_pure (of_has .here (vec_shape (by omega))) ?_
 rintro ⟨oda,odn,odc,rfl,hodn,_,hodz,hody⟩
 have hol:(orderF rs.length order).length≤4096:=by simp only [orderF,List.length_map,List.length_take];omega
 obtain rfl:odn=(orderF rs.length order).length:=by simp [intC] at hodn;omega
 repeat (first | refine wM ?_)
 refine wo_frz (b:=mb) (o:=0) (.there (.there (.there .here))) ?_
 refine wo_frz (b:=p8) (o:=0) (.there (.there (.there (.there .here)))) ?_
 refine wo_frz (b:=g5) (o:=0) (.there (.there (.there (.there (.there .here))))) ?_
 refine wo_frz (b:=g6) (o:=0) (.there (.there (.there (.there (.there (.there .here)))))) ?_
 refine wo_star ((fun h=>∃ sp,arr qb qo (rs.map rv++sp) h)::_) (fun h st=>star_map (Ent.star (.take (.there (.there (.there (.there (.there (.there (.there (.there (.there .here))))))))) .refl) st) vec_row fun _ z=>z) ?_
 refine wo_ex .here fun sp=>?_
 refine wo_frz (b:=qb) (o:=qo) .here ?_
 let RoS:HProp:=troS g6 p8 mb g5 db gb r qb qo qc rs sp L
 have hRoS:Dup RoS:=dup_all (by
  intro c hc
  simp only [List.mem_cons,List.not_mem_nil,or_false] at hc
  rcases hc with rfl | rfl | rfl | rfl | rfl | rfl
  all_goals first | exact dup_fro | exact hL)
 obtain ⟨M,hMC,i0,f0,hC72⟩:=mt_I0 (num:=num) (den:=den) (burst:=burst) hrow hts hrs.2
 obtain ⟨C,hC⟩:∃ C,callN rs=C:=⟨_,rfl⟩
 have hMCC:(2*M+1)*C≤(2*C+1)*C:=Nat.mul_le_mul_right _ (by omega)
 have hCC:C*C≤72*72:=Nat.mul_le_mul (by omega) (by omega)
 have e2C:(2*C+1)*C=2*(C*C)+C:=by rw [Nat.add_mul,Nat.mul_assoc,Nat.one_mul]
 obtain ⟨hIs,hI0,hI,htr,hover,hcut⟩:=mt_plays (gb:=gb) (db:=db) (r:=r) (g6:=g6) (p8:=p8) (mb:=mb) (g5:=g5) (ts:=ts) (RoS:=RoS) B i0 f0 (by rw [hC];omega) (orderF rs.length order)
 have hlen:(tthrs gb db num den burst r g6 p8 mb g5 RoS rs ts).length=rs.length:=by rw [← hts];simp [tthrs]
 refine wo_star (all [wds (mAddr r) 1 (mK r num den burst) (fun _=>0),all []]::all ((tthrs gb db num den burst r g6 p8 mb g5 RoS rs ts).map Thr.M)::RoS::vec 1 (.slice oda (orderF rs.length order).length odc) (intC (orderF rs.length order))::vec 1 (.slice tva rs.length tvc) (ts.map fun b=>mtF g6 b p8 mb g5)::arr bb 0 [.int .u64 (num:Nat),.int .u64 (den:Nat),.int .u64 (burst:Nat)]::[]) (fun h st=>?_) ?_
 ·have s1:=star_tail (M:=[_,_,_,_,_,_,_,_,_,_,_,_,_]) st
  have s2:Star (RoS::_) h:=star_shut (M:=[_,_,_,_,_,_]) (Ent.star (.take (.there (.there .here)) (.take (.there (.there (.there .here))) (.take (.there (.there (.there .here))) (.take (.there (.there .here)) (.take (.there .here) (.take .here .refl)))))) s1)
  rw [← hts] at s2
  have s4:=dealT hRoS (Ent.star (.take .here (.take (.there (.there .here)) (.take (.there (.there .here)) (.take (.there (.there .here)) (.take .here (.take .here (.take .here (.take .here (.drop .refl))))))))) s2)
  rw [hts] at s4
  rw [tthrs_M]
  have s5:Star (all []::_) h:=star_shut (M:=[]) s4
  exact star_shut (M:=[_,_]) (Ent.star (.take (.there (.there (.there (.there (.there .here))))) (.take .here (.take .here (.take .here (.take .here (.take .here (.take .here .refl))))))) s5)
 skip
 refine wo_call (.cons rfl (.cons rfl .nil)) trivial (plays_tr (g:=(mtG gb db num den burst).g (mAddr r) 1 (mK r num den burst)) (ts:=tthrs gb db num den burst r g6 p8 mb g5 RoS rs ts) (s0:=(0:Nat)) (order:=orderF rs.length order) (mtPI M ((mtQs rs ts).map MtQ.k)) (fun j hj=>trivial) hI0 hIs (fun p h _=>trivial) (fun _ _ z=>z) (tthrs_ok B hrow hts) (by omega) (by omega) (by omega)
   (by rw [tthrs_fv];exact rdso_vec (.there (.there .here)) (by simp [hts]) htz hty) (rdso_vec (.there .here) (by simp [intC]) hodz hody)) ?_
 rintro v1 L1 x1 ⟨tv2,cv2,rfl,rfl,rfl⟩
 rw [hcut]
 generalize playF (tthrs gb db num den burst r g6 p8 mb g5 RoS rs ts) (show ((mtG gb db num den burst).g (mAddr r) 1 (mK r num den burst)).σ from (0:Nat)) (orderF rs.length order)=p at hI htr hover hcut ⊢
 obtain ⟨qs,hqs⟩:∃ qs:List MtQ,qs=(show List MtQ from p.qs):=⟨_,rfl⟩
 have hI1:MtI num den burst M (show Nat from p.s) qs:=by rw [hqs];exact hI.1
 have hI2:qs.map MtQ.k=(mtQs rs ts).map MtQ.k:=by rw [hqs];exact hI.2
 have hov:∀ q∈qs,q.rl=[]:=by rw [hqs];exact hover
 obtain ⟨hst,hfit⟩:=mt_still B hI1 hov
 have hql:qs.length=rs.length:=by have:=congrArg List.length hI2;simp [mtQs] at this;omega
 have hk:∀ (k:Nat) q,qs[k]?=some q→q.k=k∧q.good=true:=fun k q hq=>by
  refine ⟨?_,(hst q (List.mem_of_getElem? hq)).1⟩
  have h1:(qs.map MtQ.k)[k]?=some q.k:=by rw [List.getElem?_map,hq];rfl
  rw [hI2,List.getElem?_map,mtQs,List.getElem?_mapIdx] at h1
  cases ht:ts[k]? with
  | none=>rw [ht] at h1;cases h1
  | some t=>rw [ht] at h1;cases h1;rfl
 refine wo_pure (of_has (.there .here) (vec_shape (by omega))) ?_
 rintro ⟨a2,n2,c2,rfl,hn2,_,_⟩
 obtain rfl:n2=0:=by simp [cutC] at hn2;omega
 refine wo_pure (of_has .here (vec_shape (by omega))) ?_
 rintro ⟨a1,n1,c1,rfl,hn1,_⟩
 have hn1':n1=p.tr.length:=by rw [trCP_len] at hn1;omega
 rw [hC] at htr
 refine wo_star ((fun h=>∃ ys:List (Value × List (Nat × Nat)),(ys.length=qs.length∧∀ (k:Nat) y,ys[k]?=some y→MtY (qs.map MtQ.gr) k y)∧all (ys.mapIdx (mtC gb db)) h)::arr bb 0 [.int .u64 (num:Nat),.int .u64 (den:Nat),.int .u64 (burst:Nat)]::RoS::[]) (fun h st=>?_) ?_
 ·have s4:Star (all (qs.map fun q=>mtPv gb db q.k q.gr q.good)::arr bb 0 [.int .u64 (num:Nat),.int .u64 (den:Nat),.int .u64 (burst:Nat)]::RoS::[]) h:=by
   rw [hqs]
   exact Ent.star (.take (.there (.there (.there .here))) (.take (.there (.there (.there (.there (.there (.there .here)))))) (.take (.there (.there (.there .here))) (.drop (.drop (.drop (.drop (.drop .refl)))))))) st
  exact star_exs (mts_ex hk s4)
 refine wo_ex .here fun ys=>?_
 refine wo_and .here fun hys=>?_
 repeat (first | (apply wo_mo;apply mo_alloc;exact trivial) | refine wM ?_ | (apply wo_po;apply mo_extract;exact rfl;exact rfl;exact gY))
 rintro v' L' ⟨pb3,rfl,rfl⟩
 repeat (first | (apply wo_pm;apply mo_storeA (c:=0) (k:=0) (a:=0) (vs:=[.slice none 0 0,.slice none 0 0]);exact rfl;exact rfl;exact rfl;(intro w hw;simp [Value.cells] at hw;rcases hw with rfl | rfl <;> rfl);exact rfl;exact Nat.le_refl 2;exact .here;exact trivial) | refine we_seq ?_ | (refine wR ?_;try simp only [oS]) | refine wo_nil ?_ | refine wA ?_ | refine we_block ?_)
 refine we_loopN (mtCalls bb pb3 qb qo qc gb db rs (arr pb3 0 [.slice a1 n1 c1,.slice a2 0 c2]::all (ys.mapIdx (mtC gb db))::arr bb 0 [.int .u64 (num:Nat),.int .u64 (den:Nat),.int .u64 (burst:Nat)]::RoS::[])) (fun i=>rs.length-i) 0 (Nat.zero_le _) ⟨rfl,rfl,rfl,rfl,rfl,rfl,rfl,rfl,trivial⟩ .refl rfl ?_
 intro i hi
 replace hi:i≤rs.length:=hi
 simp only [mtCalls]
 have hCi:=callN_le (rs:=rs) (i:=i)
 obtain ⟨ci,hci⟩:∃ c,callN (rs.take i)=c:=⟨_,rfl⟩
 by_cases hlt:i<rs.length
 ·obtain ⟨y,hy⟩:∃ y,rs[i]?=some y:=⟨rs[i],List.getElem?_eq_getElem hlt⟩
  have h12:=(hrow i y hy).2
  have e1:=callN_take hy
  rw [hci] at e1 hCi ⊢
  have hrd:∀ {c d e:HProp},Rd (c::d::e::RoS::[]) qb (qo+i) (.slice y.1 y.2.2.length y.2.1):=fun {c d e}=>.there (.there (.there (rd_all (.there (.there (.there (.there (Rd.fro (k:=i) (by rw [List.getElem?_append_left (by rw [List.length_map];omega),List.getElem?_map,hy];rfl) rfl))))))))
  have hadd:IntKind.i64.wrap ((ci:Int)+(y.2.2.length:Nat))=((ci+y.2.2.length:Nat):Int):=(wrap_i64 (by omega) (by omega)).trans (by omega)
  repeat (first | (apply wo_po;apply mo_index1;exact rfl;exact rfl;omega;exact trivial) | (apply wo_po;apply mo_load;exact rfl;exact hrd;exact trivial) | (apply wo_po;apply mo_bin;exact rfl;exact rfl;apply bin_add;exact hadd;exact trivial) | refine wlssT ?_ | refine we_seq ?_ | (refine wR ?_;try simp only [oS]) | refine wo_nil ?_ | refine wM ?_ | refine wA ?_ | refine wadd ?_ | refine wE ?_ | refine wT ?_ | refine we_skip ?_ | refine we_block ?_)
  refine at_round (B:=mT) (I:=mtCalls bb pb3 qb qo qc gb db rs (arr pb3 0 [.slice a1 n1 c1,.slice a2 0 c2]::all (ys.mapIdx (mtC gb db))::arr bb 0 [.int .u64 (num:Nat),.int .u64 (den:Nat),.int .u64 (burst:Nat)]::RoS::[])) (R:=fun j=>rs.length-j<rs.length-i) (i+1) (by show rs.length-(i+1)<rs.length-i;omega) (by show i+1≤rs.length;omega) ?_ .refl rfl
  refine ⟨rfl,rfl,rfl,rfl,rfl,rfl,?_,rfl,trivial⟩
  show _=some (Value.int .i64 ((callN (rs.take (i+1)):Nat):Int))
  rw [e1];rfl
 obtain rfl:i=rs.length:=by omega
 rw [List.take_length,hC] at hci
 subst hci
 rw [List.take_length,hC]
 obtain ⟨m,hm⟩:∃ m,C*2*(C+1)=m:=⟨_,rfl⟩
 have hm1:m=2*(C*C)+2*C:=by rw [← hm,Nat.mul_add,Nat.mul_one,Nat.mul_comm C 2,Nat.mul_assoc]
 obtain ⟨P,hP⟩:∃ P,C*C=P:=⟨_,rfl⟩
 rw [hP] at hm1 e2C hCC
 have w1:IntKind.i64.wrap ((C:Int)*2)=((C*2:Nat):Int):=(wrap_i64 (by omega) (by omega)).trans (by omega)
 have w2:IntKind.i64.wrap ((C:Int)+1)=((C+1:Nat):Int):=(wrap_i64 (by omega) (by omega)).trans (by omega)
 have w3:IntKind.i64.wrap (((C*2:Nat):Int)*((C+1:Nat):Int))=((m:Nat):Int):=by
  rw [← Int.natCast_mul,hm];exact wrap_i64 (by omega) (by omega)
 have w4:IntKind.i64.wrap ((C:Int)+(m:Int))=((C+m:Nat):Int):=(wrap_i64 (by omega) (by omega)).trans (by omega)
 repeat (first | (apply wo_po;apply mo_bin;exact rfl;exact rfl;apply bin_mul;(first | exact w1 | exact w3);exact gY) | (apply wo_po;apply mo_bin;exact rfl;exact rfl;apply bin_add;(first | exact w2 | exact w4);exact gY) | (apply wo_po;apply mo_loadA (vs:=[.int .u64 (num:Nat),.int .u64 (den:Nat),.int .u64 (burst:Nat)]);exact rfl;exact rfl;exact Rds.all (.there (.there .here));exact rfl) | refine wlssF ?_ | refine wleqT ?_ | refine weqlT ?_ | refine we_seq ?_ | (refine wR ?_;try simp only [oS]) | refine wo_nil ?_ | refine wM ?_ | refine wK ?_ | refine wD ?_ | refine wL ?_ | refine wE ?_ | refine wF ?_ | refine we_exit ?_)
 refine wo_call (.cons rfl (.cons rfl (.cons rfl .nil))) rfl (bound_tr (gs:=qs.map MtQ.gr) (ys:=ys) (.there .here) hys.2 (by rw [hys.1,hql]) (by rw [List.length_map,hql]) hrs.2 (fun g hg=>by obtain ⟨q,hq,rfl⟩:=List.mem_map.1 hg;exact (hst q hq).2.1) (fun g hg=>by obtain ⟨q,hq,rfl⟩:=List.mem_map.1 hg;exact (hst q hq).2.2) B hfit) ?_
 rintro v1 L1 x1 ⟨rfl,rfl⟩
 repeat (first | refine wo_nil ?_ | refine wA ?_ | refine wK ?_ | refine we_ret ?_)
 (first | refine or1 Try.func6 Try.results6 hQ rfl ?_ | refine on1 Try.func6 Try.results6 hQ rfl ?_)
 exact ⟨rfl,rfl⟩
end
end Go.Proofs.Ythoefhocecdlhaa
namespace Go.PB
open Go
section
theorem form_in {c:OpenClaim} (h1:c.start=.entering) (h2:c.stops=[]) {C:Checked} {os:Os} {f:FuncId} {L:List FuncId} {Pre:World→Array Value→Prop} {Post:Stop.Interp→World→Array Value→Value→World→Prop} :
  c.form C os f L Pre Post↔∀ F:Stop.Interp,ReturnsInOpen c.assume none C os f .any c.okInput Pre (Post F) (c.atReturn C.prog) (c.always C.prog L):=by
 unfold OpenClaim.form
 rw [h1,h2]
theorem upto_of {p:Pinned} {s:ChangeSpec} {k:(H:Type)→List (DataW H)→Bool} {c:OpenClaim} (hstart:c.start=.entering) (hstops:c.stops=[]) (hlaid:c.laid=[]) (hout:c.outside=[]) (hnb:c.noBlocks=false) (h:c.holds p (OpenSpec.ofChange s))
  (hfit:∀ f fn,p.checked.prog.funcNamed c.func=some f→p.checked.prog.funcs[f]?=some fn→∀ os:Os,os.Started→∀ (H:Type) (enc:TypeId × Value→H),
   ∃ (w:World) (tape:Tape) (i:Input),w.os=os∧(w.forCall tape i).Shaped p.checked.prog∧i.vars=[]∧Input.okWide p.checked.prog (w.forCall tape i) .any w.heap.size f i ∧
    ({ OpenSpec.ofChange s with cond:=some k }:OpenSpec).pre6 enc p.checked.prog fn c.domain c.apart (w.forCall tape i).memory i.args∧c.assume.holds p.checked.prog (lone (Frame.enter p.checked.prog f i.args .normal) [] (w.forCall tape i))) :
  ({ c with narrowed:=true }:OpenClaim).holds p { OpenSpec.ofChange s with cond:=some k }:=by
 obtain ⟨a1,a2,a3,a4,a5,a6,a7,a8,f,fn,g1,g2,r,b1,b2,b3,b4,b5,kn,c1,c2,c3,c4,c5,c6,m,l,q,n1,v1,e1,L,hL,all⟩:=h
 refine ⟨a1,a2,a3,a4,a5,a6,a7,a8,f,fn,g1,g2,r,b1,b2,b3,b4,b5,kn,c1,c2,c3,c4,c5,c6,m,l,q,by simp,v1,e1,L,hL,fun os x y H enc inj=>?_⟩
 have A:=all os x y H enc inj
 have st:os.Started:=by
  have x':c.world os:=x
  unfold OpenClaim.world at x'
  rw [hout,hstart] at x'
  exact x'
 have fit:=hfit f fn g1 g2 os st H enc
 refine (form_in (c:={ c with narrowed:=true }) hstart hstops).2 fun F=>?_
 have B:=(form_in hstart hstops).1 A F
 rw [OpenClaim.pre_of_none' hlaid] at B
 rw [OpenClaim.pre_of_none' (c:={ c with narrowed:=true }) hlaid]
 obtain ⟨h0,h1,h2,_,h4⟩:=B
 refine ⟨h0,h1,h2,?_,fun w tape i ⟨d1,d2,d3,d4,d5,d6,d7⟩=>h4 w tape i ⟨d1,d2,d3,d4,?_,d6,d7⟩⟩
 ·obtain ⟨w,tape,i,f1,f2,f3,f4,f5,f6⟩:=fit
  refine ⟨w,tape,i,f1,f2,f3,?_,f5,f6,trivial⟩
  show c.okInput _ _ _ _ _ _
  unfold OpenClaim.okInput
  rw [hnb]
  exact f4
 ·obtain ⟨e2,e3⟩:=d5
  obtain ⟨ds,gs,before,z1,z2,z3⟩:=(OpenSpec.pre_some (k:=k) rfl _ _ _ _).1 e2
  exact ⟨⟨ds,gs,before,z1,z2⟩,e3⟩
end
end Go.PB
namespace Go.PB
open Go.Conc Go.Conc.Lib Go.ConcR.Gen
open Go.ConcR (KK stA smA rd wr mk DC0)
def WgAt (ty:TypeId) (wg:Nat) (w:World) (st sm:Int):Prop:=∃ f:Nat × Nat,w.heap[wg]?=some (.cells #[.int .u64 st,.int .u32 sm] ty f)∧w.frozen? ⟨wg,0,none⟩=false∧w.frozen? ⟨wg,1,none⟩=false
section
variable {ty:TypeId} {wg:Nat} {w w':World} {st sm:Int}
theorem WgAt.cellSt (h:WgAt ty wg w st sm):w.cell? (stA wg)=some (.int .u64 st):=by obtain ⟨f,h,_⟩:=h;simp [World.cell?,stA,h]
theorem WgAt.cellSm (h:WgAt ty wg w st sm):w.cell? (smA wg)=some (.int .u32 sm):=by obtain ⟨f,h,_⟩:=h;simp [World.cell?,smA,h]
theorem WgAt.thaw (h:WgAt ty wg w st sm) (n:Nat) (hn:n<2:=by decide):w.frozen? ⟨wg,n,none⟩=false:=by
 obtain ⟨f,_,h0,h1⟩:=h
 rcases n with _ | _ | n
 ·exact h0
 ·exact h1
 ·omega
theorem WgAt.unique {st' sm':Int} (h:WgAt ty wg w st sm) (h':WgAt ty wg w st' sm'):st=st'∧sm=sm':=by
 obtain ⟨f,h,_⟩:=h
 obtain ⟨f',h',_⟩:=h'
 rw [h] at h'
 simp at h'
 exact ⟨h'.1.1,h'.1.2⟩
theorem WgAt.setSt (h:WgAt ty wg w st sm) (v:Int):WgAt ty wg (w.setCell (stA wg) (.int .u64 v)) v sm:=by
 obtain ⟨f,h,h0,h1⟩:=h
 refine ⟨f,?_,by rw [frozen_setCell];exact h0,by rw [frozen_setCell];exact h1⟩
 simp [World.setCell,stA,Array.getElem?_modify,h]
theorem WgAt.setSm (h:WgAt ty wg w st sm) (v:Int):WgAt ty wg (w.setCell (smA wg) (.int .u32 v)) st v:=by
 obtain ⟨f,h,h0,h1⟩:=h
 refine ⟨f,?_,by rw [frozen_setCell];exact h0,by rw [frozen_setCell];exact h1⟩
 simp [World.setCell,smA,Array.getElem?_modify,h]
theorem WgAt.of_heap (h:WgAt ty wg w st sm) (e:w'.heap[wg]?=w.heap[wg]?):WgAt ty wg w' st sm:=by
 obtain ⟨f,h,h0,h1⟩:=h
 have hf:∀ o,w'.frozen? ⟨wg,o,none⟩=w.frozen? ⟨wg,o,none⟩:=fun o=>by unfold World.frozen?;rw [e]
 exact ⟨f,e.trans h,(hf 0).trans h0,(hf 1).trans h1⟩
def WgLive (ty:TypeId) (Wg:Nat) (w:World):Prop:=∃ st sm,WgAt ty Wg w st sm
end
def RL (ty:TypeId) (Wg:Nat) (w w₁:World):Prop:=WgLive ty Wg w→WgLive ty Wg w₁
theorem live_cell {ty:TypeId} {Wg:Nat} {w:World} (h:WgLive ty Wg w):∃ v,w.cell? ⟨Wg,0,none⟩=some v:=let ⟨_,_,x⟩:=h;⟨_,WgAt.cellSt x⟩
section
variable (P:Program) (ty:TypeId) (Wg:Nat)
def Zg (Stop:Goroutine→World→Prop) (m:Nat) (g:Goroutine) (w:World):Prop:=Goes P false (RL ty Wg) DC0 Stop m g w
def Z4 (g:Goroutine) (w:World):Prop :=
 g.status=.running∧mayWake P g=true∧(WgAt ty Wg w 0 0→∃ g' q,stepG P false g w=.go g' (w.setCell (smA Wg) (.int .u32 1)) (semEvents (smA Wg))∧QuitsD P q 1 g')
def Z3 (g:Goroutine) (w:World):Prop :=
 g.status=.running∧(WgAt ty Wg w 1 0→∃ g' m,stepG P false g w=.go g' (w.setCell (stA Wg) (.int .u64 0)) #[wr (stA Wg)]∧Zg P ty Wg (Z4 P ty Wg) m g' (w.setCell (stA Wg) (.int .u64 0)))
def Z2 (g:Goroutine) (w:World):Prop :=
 g.status=.running∧(WgAt ty Wg w 1 0→∃ g' m,stepG P false g w=.go g' w #[rd (stA Wg)]∧Zg P ty Wg (Z3 P ty Wg) m g' w)
def Z1 (g:Goroutine) (w:World):Prop :=
 g.status=.running∧∀ v wt:Nat,wt≤1→v<2147483647→WgAt ty Wg w ((v+1)*KK+wt) 0 →
  ∃ g',stepG P false g w=.go g' (w.setCell (stA Wg) (.int .u64 (v*KK+wt))) #[rd (stA Wg),wr (stA Wg)] ∧
   ((v=0∧wt=1)→∃ m,Zg P ty Wg (Z2 P ty Wg) m g' (w.setCell (stA Wg) (.int .u64 (v*KK+wt))))∧(¬ (v=0∧wt=1)→∃ q,QuitsD P q 1 g')
def ZK (g:Goroutine) (w:World):Prop :=
 g.status=.running∧∃ g' m,stepG P false g w=.go g' w #[mk .disable]∧Zg P ty Wg (Z1 P ty Wg) m g' w
def ZR (g:Goroutine) (w:World):Prop :=
 g.status=.running∧∃ g' m,stepG P false g w=.go g' w #[mk (.releaseMerge (stA Wg))]∧Zg P ty Wg (ZK P ty Wg) m g' w
end
end Go.PB
namespace Go.PB
open Go.Conc Go.Conc.Lib Go.ConcR.Gen
open Go.ConcR (KK stA smA rd wr mk DC0)
theorem quits_more {P:Program}:∀ {n d:Nat} {g:Goroutine},QuitsD P n d g→QuitsD P (n+1) d g
 | 0,_,_,h=>.inl h
 | _+1,_,_,h=>h.imp id fun ⟨hs,g',es,hm,hst,hq⟩=>⟨hs,g',es,hm,hst,quits_more hq⟩
theorem quits_mono {P:Program} {n n' d:Nat} {g:Goroutine} (h:QuitsD P n d g) (hn:n≤n'):QuitsD P n' d g:=by
 induction hn with
 | refl=>exact h
 | step _ ih=>exact quits_more ih
set_option maxRecDepth 100000 in
set_option maxHeartbeats 8000000 in
theorem add_goes [Go.ConcR.Payload] {P:Program} {L:WgLink} (H:WgLib P L) {Wg:Nat} {b₀:Frame} {a₀:Act} {ops₀:Array Oper} {i₀:Nat} {rest₀:List Nat} {k₀:List Item} {cs:List Frame} {qt:Nat}
  (hT:QuitsD P qt 0 (G (b₀.at (a₀.put ((ops₀[i₀]?).bind (·.dst)) (.tuple #[])) (.inRegion ops₀ rest₀::k₀)) cs)) (w:World) (hK:WgLive L.tWg Wg w) :
  Zg P L.tWg Wg (ZR P L.tWg Wg) 20 (G ((Go.Conc.base L.add).at ⟨#[.pointer (some ⟨Wg,0,none⟩),.int .i64 (-1)]++Array.replicate 115 undef,[]⟩ [.code (body_add L)]) (b₀.at a₀ (.inRegion ops₀ (i₀::rest₀)::k₀)::cs)) w:=by
 lib_facts
 simp only [body_add,addFn,Option.getD_some,Array.replicate_succ,Array.replicate_zero]
 unfold Zg
 have key:∀ {w w₁:World},WgLive L.tWg Wg w→RL L.tWg Wg w w₁→WgLive L.tWg Wg w₁:=fun h r=>r h
 walk_nrm
 repeat (first | u_c stepG_seq key hK | u_c stepG_region_end key hK | u_c stepG_skip key hK | u_reg key hK | u_skip key hK | u_op key hK | u_cond true key hK | u_cond false key hK | u_c stepG_ret' key hK | u_c stepG_block key hK | u_c stepG_loop key hK | u_c stepG_end key hK | u_defer key hK | u_leave1 H.f_uAdd key hK | u_leave1 H.f_uLoad key hK | u_leave0 H.f_uStore key hK | u_call H.f_uAdd (nm_uAdd L) uAddFn key hK | u_call H.f_uLoad (nm_uLoad L) uLoadFn key hK | u_call H.f_uStore (nm_uStore L) uStoreFn key hK | u_bub key hK)
 u_conv H.underlying_tWgP H.room_tWg (live_cell hK).choose_spec key hK
 refine Goes.stop (fun w₁ h₁=>?_)
 replace hK:=key hK h₁
 clear h₁
 refine ⟨rfl,_,30,stepG_markAt .releaseMerge (by simp) rfl rfl (by k_ne) rfl H.f_relMerge (x_relMerge_n L) (x_relMerge_b L) (x_relMerge_x L) (x_relMerge_f L) (by simp [Act.eval,stA]),?_⟩
 unfold Zg
 walk_nrm
 repeat (first | u_c stepG_seq key hK | u_c stepG_region_end key hK | u_c stepG_skip key hK | u_reg key hK | u_skip key hK | u_op key hK | u_cond true key hK | u_cond false key hK | u_c stepG_ret' key hK | u_c stepG_block key hK | u_c stepG_loop key hK | u_c stepG_end key hK | u_defer key hK | u_leave1 H.f_uAdd key hK | u_leave1 H.f_uLoad key hK | u_leave0 H.f_uStore key hK | u_call H.f_uAdd (nm_uAdd L) uAddFn key hK | u_call H.f_uLoad (nm_uLoad L) uLoadFn key hK | u_call H.f_uStore (nm_uStore L) uStoreFn key hK | u_bub key hK)
 refine Goes.stop (fun w₁ h₁=>?_)
 replace hK:=key hK h₁
 clear h₁
 refine ⟨rfl,_,80,stepG_mark0 .disable (by simp) rfl rfl (by k_ne) rfl H.f_disable (x_disable_n L) (x_disable_b L) (x_disable_x L) (x_disable_f L),?_⟩
 unfold Zg
 walk_nrm
 repeat (first | u_c stepG_seq key hK | u_c stepG_region_end key hK | u_c stepG_skip key hK | u_reg key hK | u_skip key hK | u_op key hK | u_cond true key hK | u_cond false key hK | u_c stepG_ret' key hK | u_c stepG_block key hK | u_c stepG_loop key hK | u_c stepG_end key hK | u_defer key hK | u_leave1 H.f_uAdd key hK | u_leave1 H.f_uLoad key hK | u_leave0 H.f_uStore key hK | u_call H.f_uAdd (nm_uAdd L) uAddFn key hK | u_call H.f_uLoad (nm_uLoad L) uLoadFn key hK | u_call H.f_uStore (nm_uStore L) uStoreFn key hK | u_bub key hK)
 refine Goes.stop (fun w₁ h₁=>?_)
 clear h₁ hK
 refine ⟨rfl,fun v wt hwt hv hw=>?_⟩
 have e0:IntKind.u64.wrap (KK+18446744069414584320)=0:=by decide
 have e1:IntKind.u64.wrap (KK+1+18446744069414584320)=1:=by decide
 rcases Nat.eq_zero_or_pos v with rfl | hvp <;> (obtain rfl | rfl:wt=0∨wt=1:=by omega)
 ·-- nobody is left,nobody waits
  replace hw:WgAt L.tWg Wg w₁ KK 0:=by simpa using hw
  have z:((0:Nat):Int)*KK+((0:Nat):Int)=0:=by simp
  rw [z]
  refine ⟨_,(stepG_add_atomic rfl rfl (by k_ne) rfl H.f_addU64 (x_addU64_n L) (x_addU64_b L) (x_addU64_x L) .u64 (x_addU64_f L) rfl rfl (WgAt.cellSt hw) (WgAt.thaw hw 0)).trans (by rw [e0];rfl),fun hl=>absurd hl.2 (by decide),fun _=>⟨qt+200,?_⟩⟩
  clear hw
  walk_nrm
  q_val (.int .u64 0)
  q_c stepG_region_end
  q_c stepG_ret'
  q_leave1 H.f_uAdd
  q_val (.int .u64 0)
  q_c stepG_region_end
  q_c stepG_seq
  q_c stepG_seq
  q_reg
  q_val (.int .u64 0)
  q_val (.int .u64 0)
  q_val (.bool false)
  q_val (.bool false)
  q_skip
  q_skip
  q_val (.bool false)
  q_c stepG_region_end
  q_cond false
  q_c stepG_skip
  q_c stepG_seq
  q_reg
  q_val (.int .u64 0)
  q_val (.int .u64 0)
  q_val (.int .i32 0)
  q_val (.int .i32 0)
  q_c stepG_region_end
  q_c stepG_seq
  q_reg
  q_val (.int .u64 0)
  q_val (.int .u64 0)
  q_val (.int .u32 0)
  q_val (.int .u32 0)
  q_c stepG_region_end
  q_c stepG_seq
  q_c stepG_seq
  q_reg
  q_val (.bool true)
  q_val (.int .i64 (-1))
  q_val (.bool false)
  q_val (.bool false)
  q_val (.bool false)
  q_skip
  q_skip
  q_skip
  q_skip
  q_val (.bool false)
  q_c stepG_region_end
  q_cond false
  q_c stepG_skip
  q_c stepG_seq
  q_c stepG_seq
  q_reg
  q_val (.int .i32 0)
  q_val (.bool false)
  q_c stepG_region_end
  q_cond false
  q_c stepG_skip
  q_c stepG_seq
  q_c stepG_seq
  q_reg
  q_val (.int .u32 0)
  q_val (.bool false)
  q_val (.bool false)
  q_skip
  q_skip
  q_val (.bool false)
  q_val (.bool false)
  q_skip
  q_skip
  q_skip
  q_skip
  q_val (.bool false)
  q_c stepG_region_end
  q_cond false
  q_c stepG_skip
  q_c stepG_seq
  q_c stepG_seq
  q_reg
  q_val (.int .i32 0)
  q_val (.bool false)
  q_val (.bool false)
  q_val (.int .u32 0)
  q_val (.bool true)
  q_val (.bool true)
  q_c stepG_region_end
  q_cond true
  q_c stepG_ret'
  q_enable
  q_leave0 H.f_add
  exact quits_mono hT (by omega)
 ·-- nobody is left,the starter waits: the last one
  replace hw:WgAt L.tWg Wg w₁ (KK+1) 0:=by simpa using hw
  have z:((0:Nat):Int)*KK+((1:Nat):Int)=1:=by simp
  rw [z]
  refine ⟨_,(stepG_add_atomic rfl rfl (by k_ne) rfl H.f_addU64 (x_addU64_n L) (x_addU64_b L) (x_addU64_x L) .u64 (x_addU64_f L) rfl rfl (WgAt.cellSt hw) (WgAt.thaw hw 0)).trans (by rw [e1];rfl),fun _=>⟨150,?_⟩,fun hl=>absurd ⟨rfl,rfl⟩ hl⟩
  have hK:WgLive L.tWg Wg (w₁.setCell (stA Wg) (.int .u64 1)):=⟨_,_,WgAt.setSt hw 1⟩
  clear hw
  unfold Zg
  walk_nrm
  u_op key hK
  u_c stepG_region_end key hK
  u_c stepG_ret' key hK
  u_leave1 H.f_uAdd key hK
  u_op key hK
  u_c stepG_region_end key hK
  u_c stepG_seq key hK
  u_c stepG_seq key hK
  u_reg key hK
  u_op key hK
  u_op key hK
  u_op key hK
  u_op key hK
  u_skip key hK
  u_skip key hK
  u_op key hK
  u_c stepG_region_end key hK
  u_cond false key hK
  u_c stepG_skip key hK
  u_c stepG_seq key hK
  u_reg key hK
  u_op key hK
  u_op key hK
  u_op key hK
  u_op key hK
  u_c stepG_region_end key hK
  u_c stepG_seq key hK
  u_reg key hK
  u_op key hK
  u_op key hK
  u_op key hK
  u_op key hK
  u_c stepG_region_end key hK
  u_c stepG_seq key hK
  u_c stepG_seq key hK
  u_reg key hK
  u_op key hK
  u_op key hK
  u_op key hK
  u_op key hK
  u_op key hK
  u_skip key hK
  u_skip key hK
  u_skip key hK
  u_skip key hK
  u_op key hK
  u_c stepG_region_end key hK
  u_cond false key hK
  u_c stepG_skip key hK
  u_c stepG_seq key hK
  u_c stepG_seq key hK
  u_reg key hK
  u_op key hK
  u_op key hK
  u_c stepG_region_end key hK
  u_cond false key hK
  u_c stepG_skip key hK
  u_c stepG_seq key hK
  u_c stepG_seq key hK
  u_reg key hK
  u_op key hK
  u_op key hK
  u_op key hK
  u_op key hK
  u_op key hK
  u_op key hK
  u_op key hK
  u_skip key hK
  u_skip key hK
  u_skip key hK
  u_skip key hK
  u_op key hK
  u_c stepG_region_end key hK
  u_cond false key hK
  u_c stepG_skip key hK
  u_c stepG_seq key hK
  u_c stepG_seq key hK
  u_reg key hK
  u_op key hK
  u_op key hK
  u_op key hK
  u_op key hK
  u_op key hK
  u_op key hK
  u_c stepG_region_end key hK
  u_cond false key hK
  u_c stepG_skip key hK
  u_c stepG_seq key hK
  u_c stepG_seq key hK
  u_reg key hK
  u_op key hK
  u_op key hK
  u_op key hK
  u_call H.f_uLoad (nm_uLoad L) uLoadFn key hK
  u_c stepG_seq key hK
  u_reg key hK
  u_op key hK
  u_c stepG_region_end key hK
  u_c stepG_seq key hK
  u_reg key hK
  u_op key hK
  u_op key hK
  u_op key hK
  refine Goes.stop (fun w₂ h₂=>?_)
  clear h₂ hK
  refine ⟨rfl,fun hw=>⟨_,60,stepG_load_atomic rfl rfl (by k_ne) rfl H.f_loadU64 (x_loadU64_n L) (x_loadU64_b L) (x_loadU64_x L) .u64 (x_loadU64_f L) rfl (WgAt.cellSt hw),?_⟩⟩
  have hK:WgLive L.tWg Wg w₂:=⟨_,_,hw⟩
  clear hw
  unfold Zg
  walk_nrm
  u_op key hK
  u_c stepG_region_end key hK
  u_c stepG_ret' key hK
  u_leave1 H.f_uLoad key hK
  u_op key hK
  u_op key hK
  u_c stepG_region_end key hK
  u_cond false key hK
  u_c stepG_skip key hK
  u_c stepG_seq key hK
  u_reg key hK
  u_op key hK
  u_op key hK
  u_op key hK
  u_call H.f_uStore (nm_uStore L) uStoreFn key hK
  u_reg key hK
  u_op key hK
  u_op key hK
  u_op key hK
  u_op key hK
  refine Goes.stop (fun w₃ h₃=>?_)
  clear h₃ hK
  refine ⟨rfl,fun hw=>⟨_,60,stepG_store_atomic rfl rfl (by k_ne) rfl H.f_storeU64 (x_storeU64_n L) (x_storeU64_b L) (x_storeU64_x L) (x_storeU64_f L) rfl rfl (WgAt.cellSt hw) (WgAt.thaw hw 0),?_⟩⟩
  have hK:WgLive L.tWg Wg (w₃.setCell (stA Wg) (.int .u64 0)):=⟨_,_,WgAt.setSt hw 0⟩
  clear hw
  unfold Zg
  walk_nrm
  u_c stepG_region_end key hK
  u_c stepG_end key hK
  u_leave0 H.f_uStore key hK
  u_c stepG_region_end key hK
  u_c stepG_seq key hK
  u_c stepG_seq key hK
  u_reg key hK
  u_op key hK
  u_c stepG_region_end key hK
  u_cond false key hK
  u_c stepG_skip key hK
  u_c stepG_block key hK
  u_c stepG_loop key hK
  u_c stepG_seq key hK
  u_c stepG_seq key hK
  u_reg key hK
  u_op key hK
  u_op key hK
  u_c stepG_region_end key hK
  u_cond true key hK
  u_c stepG_skip key hK
  u_c stepG_seq key hK
  u_c stepG_block key hK
  u_reg key hK
  u_op key hK
  u_op key hK
  u_op key hK
  refine Goes.stop (fun w₄ h₄=>?_)
  clear h₄ hK
  refine ⟨rfl,mayWake_entry rfl rfl H.f_semrelease (x_semrelease_b L),fun hw=>⟨_,qt+40,(stepG_semrelease rfl rfl (by k_ne) rfl H.f_semrelease (x_semrelease_n L) (x_semrelease_b L) (x_semrelease_x L) (x_semrelease_f L) (by simp [Act.eval,smA]) (WgAt.cellSm hw) (WgAt.thaw hw 1)).trans (by rfl),?_⟩⟩
  clear hw
  walk_nrm
  q_c stepG_region_end
  q_c stepG_inBlock
  q_reg
  q_val (.int .u32 1)
  q_val (.int .u32 0)
  q_val (.int .u32 0)
  q_c stepG_region_end
  q_c stepG_inLoop
  q_c stepG_seq
  q_c stepG_seq
  q_reg
  q_val (.int .u32 0)
  q_val (.bool false)
  q_c stepG_region_end
  q_cond false
  q_exit
  q_c stepG_end
  q_enable
  q_leave0 H.f_add
  exact quits_mono hT (by omega)
 ·-- some are left,nobody waits
  replace hw:WgAt L.tWg Wg w₁ (((v:Nat)+1)*KK+0) 0:=by simpa using hw
  have z:((v:Nat):Int)*KK+((0:Nat):Int)=(v:Int)*KK+0:=by simp
  rw [z]
  have eS:IntKind.u64.wrap (((v:Nat)+1)*KK+0+18446744069414584320)=(v:Int)*KK+0:=by rw [IntKind.wrap_u64];simp only [KK];omega
  obtain ⟨S,hS⟩:∃ S:Int,S=(v:Int)*KK+0:=⟨_,rfl⟩
  rw [← hS] at eS ⊢
  have a1:S/4294967296=(v:Int):=by rw [hS];simp only [KK];omega
  have a2:0≤S∧S<9223372036854775808:=by rw [hS];simp only [KK];omega
  have b1:bits .and .u64 S 2147483648=0:=by rw [hS];have:=Go.ConcN.st_flag v 0 (by omega) (by omega);simpa [KK] using this
  have b2:bits .and .u64 S 2147483647=0:=by rw [hS];have:=Go.ConcN.st_waiters v 0 (by omega) (by omega);simpa [KK] using this
  clear hS z
  refine ⟨_,(stepG_add_atomic rfl rfl (by k_ne) rfl H.f_addU64 (x_addU64_n L) (x_addU64_b L) (x_addU64_x L) .u64 (x_addU64_f L) rfl rfl (WgAt.cellSt hw) (WgAt.thaw hw 0)).trans (by rw [eS];rfl),fun hl=>absurd hl.1 (by omega),fun _=>⟨qt+150,?_⟩⟩
  clear hw
  walk_nrm
  q_vn (.int .u64 S)
  q_c stepG_region_end
  q_c stepG_ret'
  q_leave1 H.f_uAdd
  q_vn (.int .u64 S)
  q_c stepG_region_end
  q_c stepG_seq
  q_c stepG_seq
  q_reg
  q_vn (.int .u64 S)
  q_vn (.int .u64 0)
  q_vn (.bool false)
  q_vn (.bool false)
  q_skip
  q_skip
  q_vn (.bool false)
  q_c stepG_region_end
  q_cond false
  q_c stepG_skip
  q_c stepG_seq
  q_reg
  q_vn (.int .u64 S)
  q_vn (.int .u64 (v:Int))
  q_vn (.int .i32 (v:Int))
  q_vn (.int .i32 (v:Int))
  q_c stepG_region_end
  q_c stepG_seq
  q_reg
  q_vn (.int .u64 S)
  q_vn (.int .u64 0)
  q_vn (.int .u32 0)
  q_vn (.int .u32 0)
  q_c stepG_region_end
  q_c stepG_seq
  q_c stepG_seq
  q_reg
  q_vn (.bool true)
  q_vn (.int .i64 (-1))
  q_vn (.bool false)
  q_vn (.bool false)
  q_vn (.bool false)
  q_skip
  q_skip
  q_skip
  q_skip
  q_vn (.bool false)
  q_c stepG_region_end
  q_cond false
  q_c stepG_skip
  q_c stepG_seq
  q_c stepG_seq
  q_reg
  q_vn (.int .i32 (v:Int))
  q_vn (.bool false)
  q_c stepG_region_end
  q_cond false
  q_c stepG_skip
  q_c stepG_seq
  q_c stepG_seq
  q_reg
  q_vn (.int .u32 0)
  q_vn (.bool false)
  q_vn (.bool false)
  q_skip
  q_skip
  q_vn (.bool false)
  q_vn (.bool false)
  q_skip
  q_skip
  q_skip
  q_skip
  q_vn (.bool false)
  q_c stepG_region_end
  q_cond false
  q_c stepG_skip
  q_c stepG_seq
  q_c stepG_seq
  q_reg
  q_vn (.int .i32 (v:Int))
  q_vn (.bool true)
  q_vn (.bool true)
  q_skip
  q_skip
  q_vn (.bool true)
  q_c stepG_region_end
  q_cond true
  q_c stepG_ret'
  q_enable
  q_leave0 H.f_add
  exact quits_mono hT (by omega)
 ·-- some are left,the starter waits
  replace hw:WgAt L.tWg Wg w₁ (((v:Nat)+1)*KK+1) 0:=by simpa using hw
  have z:((v:Nat):Int)*KK+((1:Nat):Int)=(v:Int)*KK+1:=by simp
  rw [z]
  have eS:IntKind.u64.wrap (((v:Nat)+1)*KK+1+18446744069414584320)=(v:Int)*KK+1:=by rw [IntKind.wrap_u64];simp only [KK];omega
  obtain ⟨S,hS⟩:∃ S:Int,S=(v:Int)*KK+1:=⟨_,rfl⟩
  rw [← hS] at eS ⊢
  have a1:S/4294967296=(v:Int):=by rw [hS];simp only [KK];omega
  have a2:0≤S∧S<9223372036854775808:=by rw [hS];simp only [KK];omega
  have b1:bits .and .u64 S 2147483648=0:=by rw [hS];have:=Go.ConcN.st_flag v 1 (by omega) (by omega);simpa [KK] using this
  have b2:bits .and .u64 S 2147483647=1:=by rw [hS];have:=Go.ConcN.st_waiters v 1 (by omega) (by omega);simpa [KK] using this
  clear hS z
  refine ⟨_,(stepG_add_atomic rfl rfl (by k_ne) rfl H.f_addU64 (x_addU64_n L) (x_addU64_b L) (x_addU64_x L) .u64 (x_addU64_f L) rfl rfl (WgAt.cellSt hw) (WgAt.thaw hw 0)).trans (by rw [eS];rfl),fun hl=>absurd hl.1 (by omega),fun _=>⟨qt+150,?_⟩⟩
  clear hw
  walk_nrm
  q_vn (.int .u64 S)
  q_c stepG_region_end
  q_c stepG_ret'
  q_leave1 H.f_uAdd
  q_vn (.int .u64 S)
  q_c stepG_region_end
  q_c stepG_seq
  q_c stepG_seq
  q_reg
  q_vn (.int .u64 S)
  q_vn (.int .u64 0)
  q_vn (.bool false)
  q_vn (.bool false)
  q_skip
  q_skip
  q_vn (.bool false)
  q_c stepG_region_end
  q_cond false
  q_c stepG_skip
  q_c stepG_seq
  q_reg
  q_vn (.int .u64 S)
  q_vn (.int .u64 (v:Int))
  q_vn (.int .i32 (v:Int))
  q_vn (.int .i32 (v:Int))
  q_c stepG_region_end
  q_c stepG_seq
  q_reg
  q_vn (.int .u64 S)
  q_vn (.int .u64 1)
  q_vn (.int .u32 1)
  q_vn (.int .u32 1)
  q_c stepG_region_end
  q_c stepG_seq
  q_c stepG_seq
  q_reg
  q_vn (.bool true)
  q_vn (.int .i64 (-1))
  q_vn (.bool false)
  q_vn (.bool false)
  q_vn (.bool false)
  q_skip
  q_skip
  q_skip
  q_skip
  q_vn (.bool false)
  q_c stepG_region_end
  q_cond false
  q_c stepG_skip
  q_c stepG_seq
  q_c stepG_seq
  q_reg
  q_vn (.int .i32 (v:Int))
  q_vn (.bool false)
  q_c stepG_region_end
  q_cond false
  q_c stepG_skip
  q_c stepG_seq
  q_c stepG_seq
  q_reg
  q_vn (.int .u32 1)
  q_vn (.bool true)
  q_vn (.bool true)
  q_vn (.int .i64 (-1))
  q_vn (.bool false)
  q_vn (.bool false)
  q_vn (.bool false)
  q_skip
  q_skip
  q_skip
  q_skip
  q_vn (.bool false)
  q_c stepG_region_end
  q_cond false
  q_c stepG_skip
  q_c stepG_seq
  q_c stepG_seq
  q_reg
  q_vn (.int .i32 (v:Int))
  q_vn (.bool true)
  q_vn (.bool true)
  q_skip
  q_skip
  q_vn (.bool true)
  q_c stepG_region_end
  q_cond true
  q_c stepG_ret'
  q_enable
  q_leave0 H.f_add
  exact quits_mono hT (by omega)
end Go.PB
namespace Go.PB
open Go.Conc Go.Conc.Lib Go.ConcR.Gen
open Go.ConcR (KK stA smA rd wr mk DC0)
set_option maxRecDepth 100000 in
theorem add_goes2 [Go.ConcR.Payload] {P:Program} {L:WgLink} (H:WgLib P L) {Wg:Nat} {b₀:Frame} {a₀:Act} {ops₀:Array Oper} {i₀:Nat} {rest₀:List Nat} {k₀:List Item} {cs:List Frame} {qt:Nat}
  (hT:QuitsD P qt 0 (G (b₀.at (a₀.put ((ops₀[i₀]?).bind (·.dst)) (.tuple #[])) (.inRegion ops₀ rest₀::k₀)) cs)) (w:World) (hK:WgLive L.tWg Wg w) :
  Zg P L.tWg Wg (ZR P L.tWg Wg) 20 (G ((Go.Conc.base L.add).at ⟨#[.pointer (some ⟨Wg,0,none⟩),.int .i64 (-1),undef,undef,undef,undef,undef,undef,undef,undef,undef,undef,undef,undef,undef,undef,undef,undef,undef,undef,undef,undef,undef,undef,undef,undef,undef,undef,undef,undef,undef,undef,undef,undef,undef,undef,undef,undef,undef,undef,undef,undef,undef,undef,undef,undef,undef,undef,undef,undef,undef,undef,undef,undef,undef,undef,undef,undef,undef,undef,undef,undef,undef,undef,undef,undef,undef,undef,undef,undef,undef,undef,undef,undef,undef,undef,undef,undef,undef,undef,undef,undef,undef,undef,undef,undef,undef,undef,undef,undef,undef,undef,undef,undef,undef,undef,undef,undef,undef,undef,undef,undef,undef,undef,undef,undef,undef,undef,undef,undef,undef,undef,undef,undef,undef,undef,undef],[]⟩ [.code (body_add L)]) (b₀.at a₀ (.inRegion ops₀ (i₀::rest₀)::k₀)::cs)) w:=by
 have e:(#[.pointer (some ⟨Wg,0,none⟩),.int .i64 (-1),undef,undef,undef,undef,undef,undef,undef,undef,undef,undef,undef,undef,undef,undef,undef,undef,undef,undef,undef,undef,undef,undef,undef,undef,undef,undef,undef,undef,undef,undef,undef,undef,undef,undef,undef,undef,undef,undef,undef,undef,undef,undef,undef,undef,undef,undef,undef,undef,undef,undef,undef,undef,undef,undef,undef,undef,undef,undef,undef,undef,undef,undef,undef,undef,undef,undef,undef,undef,undef,undef,undef,undef,undef,undef,undef,undef,undef,undef,undef,undef,undef,undef,undef,undef,undef,undef,undef,undef,undef,undef,undef,undef,undef,undef,undef,undef,undef,undef,undef,undef,undef,undef,undef,undef,undef,undef,undef,undef,undef,undef,undef,undef,undef,undef,undef]:Array Value)=#[.pointer (some ⟨Wg,0,none⟩),.int .i64 (-1)]++Array.replicate 115 undef:=by kernel_rfl
 rw [e]
 exact add_goes H hT w hK
set_option maxHeartbeats 8000000 in
set_option maxRecDepth 100000 in
theorem done_goes [Go.ConcR.Payload] {P:Program} {L:WgLink} (H:WgLib P L) {Wg:Nat} {c:Frame} {cs:List Frame} {qt:Nat} (hcm:c.mode=.returning) (hT:QuitsD P qt 0 (G c cs)) (w:World) (hK:WgLive L.tWg Wg w) :
  Zg P L.tWg Wg (ZR P L.tWg Wg) 23 (G ((baseD L.done).at ⟨#[.pointer (some ⟨Wg,0,none⟩),undef,undef,undef],[]⟩ [.code (body_done L)]) (c::cs)) w:=by
 lib_facts
 have hA:=@add_goes2 _ P L H Wg
 unfold Zg at hA ⊢
 have key:∀ {w w₁:World},WgLive L.tWg Wg w→RL L.tWg Wg w w₁→WgLive L.tWg Wg w₁:=fun h r=>r h
 simp only [body_done,body_add,doneFn,addFn,Option.getD_some] at hA ⊢
 u_reg key hK
 u_op key hK
 u_in key hK
 refine goes_call rfl rfl (by k_ne) rfl H.f_add (nm_add L) rfl ⟨by u_nil,?_⟩
 walk_nrmf addFn
 refine hA (qt:=qt+3) ?_ _ hK
 q_c stepG_region_end
 q_c stepG_end
 exact QuitsD.leaveD rfl rfl H.f_done rfl hcm hT
theorem done_enter {P:Program} {L:WgLink} (H:WgLib P L) {v:Value}:Frame.enter P L.done #[v] .deferred=(baseD L.done).at ⟨#[v,undef,undef,undef],[]⟩ [.code (body_done L)]:=by
 simp [Frame.enter,H.f_done,body_done,doneFn]
 rfl
end Go.PB
