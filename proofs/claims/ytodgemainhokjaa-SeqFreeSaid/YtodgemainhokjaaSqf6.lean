/-
  Part 6 of 8.
-/
import Derived.Test.YtodgemainhokjaaSqf5
import Derived.Test.YtodgemainhokjaaSqf2
import Derived.Test.YtodgemainhokjaaSqf3
import Derived.Conc.WgGenN2
set_option linter.unusedVariables false
set_option linter.unusedSimpArgs false
namespace Go.Proofs.Ytodgemainhokjaa
open Go Go.PB
attribute [local irreducible] Mo Bin Eql Tr Wo Ap Wle
section
abbrev SwS:=(Nat × Nat × Nat) × Nat
abbrev SwT:=Nat × Nat × Nat
def swPlan (q:SwT):Option ((Int × Int) × (SwS→SwS × SwT)) :=
 match q.1,q.2.1 with
 | 0,0=>some ((((1:Nat):Int),((0:Nat):Int)),fun s=>if s.1.1%2=0 then (s,(0,1,s.1.1)) else ((s.1,51),(0,9,0)))
 | 0,1=>some ((((1:Nat):Int),((1:Nat):Int)),fun s=>(s,(0,2,q.2.2)))
 | 0,2=>some ((((1:Nat):Int),((2:Nat):Int)),fun s=>(s,(0,3,q.2.2)))
 | 0,3=>some ((((1:Nat):Int),((0:Nat):Int)),fun s=>if s.1.1=q.2.2 then ((s.1,0),(0,9,0)) else ((s.1,51),(0,9,0)))
 | 1,0=>some ((((1:Nat):Int),((0:Nat):Int)),fun s=>if s.1.1%2=0 then (s,(1,1,s.1.1)) else (s,(1,9,0)))
 | 1,1=>some ((((5:Nat):Int),((0:Nat):Int)),fun s=>if s.1.1=q.2.2 then ((((q.2.2+1)%18446744073709551616,s.1.2),s.2),(1,2,q.2.2)) else (s,(1,9,0)))
 | 1,2=>some ((((2:Nat):Int),((1:Nat):Int)),fun s=>(((s.1.1,1,s.1.2.2),s.2),(1,3,q.2.2)))
 | 1,3=>some ((((2:Nat):Int),((2:Nat):Int)),fun s=>(((s.1.1,s.1.2.1,2),s.2),(1,4,q.2.2)))
 | 1,4=>some ((((2:Nat):Int),((0:Nat):Int)),fun s=>((((q.2.2+2)%18446744073709551616,s.1.2),s.2),(1,9,0)))
 | _,_=>none
def swW (s:SwS) (i:Nat):Nat:=match i with | 0=>s.1.1 | 1=>s.1.2.1 | _=>s.1.2.2
def swZ (tb t:Nat):HProp:=all [arr tb 0 [.int .i64 (t:Nat)]]
def swG (tb:Nat):WGm where
 σ:=SwS
 θ:=SwT
 ζ:=Nat
 wf:=swW
 zf:=fun s=>s.2
 Z:=swZ tb
 plan:=swPlan
 ok:=fun _=>True
 Pv:=fun _ _=>True
 up:=fun _ _ _=>trivial
section
variable {tb r sb says turn fin wg:Nat} {Pm:HProp}
abbrev swAcc (tb r sb says turn fin wg:Nat) (Pm:HProp):Acc tH (gateV sb):=gamAcc (swG tb) (sAddr r) 3 (sK r 2) (s_apart r 2) sb says turn fin wg Pm
theorem sw_at:SeqAt (swAcc tb r sb says turn fin wg Pm) r 2:=⟨by omega,by omega,fun s=>rd_in1 (Rd.of .here sC_rd),rfl,fun i _=>s_addr⟩
theorem sw_read {s:GaS (swG tb)} (hq:s.q=((0,0,0):SwT)) (hf:∀ j,j<3→s.f j=swW s.s j) (hc:s.c=(show SwS from s.s).2) :
  ReadT (swAcc tb r sb says turn fin wg Pm) 2 s fun o s'=>s'.q=((0,9,0):SwT)∧(∀ j,j<3→s'.f j=swW s'.s j)∧(show SwS from s'.s).2=if o.isSome=true then 0 else 51:=by
 refine ga_go (op:=1) (F:=fun s:SwS=>if s.1.1%2=0 then (s,((0,1,s.1.1):SwT)) else ((s.1,51),((0,9,0):SwT))) rfl (by rw [hq];rfl) hf hc (fun _ _=>trivial) fun s1 n1 hn1 _=>⟨by omega,?_⟩
 obtain ⟨⟨a1,b1,c1⟩,t1⟩:=s1
 show if a1%2=0 then _ else _
 by_cases c:a1%2=0
 ·rw [if_pos c]
  simp only [if_pos c]
  refine ga_go (op:=1) (w:=1) (F:=fun s:SwS=>(s,((0,2,a1):SwT))) rfl rfl (fun j hj=>rfl) rfl (fun _ _=>trivial) fun s2 n2 hn2 _=>⟨by show 1<3;omega,?_⟩
  refine ga_go (op:=1) (w:=2) (F:=fun s:SwS=>(s,((0,3,a1):SwT))) rfl rfl (fun j hj=>rfl) rfl (fun _ _=>trivial) fun s3 n3 hn3 _=>⟨by show 2<3;omega,?_⟩
  refine ga_go (op:=1) (w:=0) (F:=fun s:SwS=>if s.1.1=a1 then ((s.1,0),((0,9,0):SwT)) else ((s.1,51),((0,9,0):SwT))) rfl rfl (fun j hj=>rfl) rfl (fun _ _=>trivial) fun s4 n4 hn4 _=>⟨by omega,?_⟩
  obtain ⟨⟨a4,b4,c4⟩,t4⟩:=s4
  show if a4=a1 then _ else _
  by_cases e:a4=a1
  ·rw [if_pos e]
   simp only [if_pos e]
   exact ⟨rfl,fun j hj=>by unfold swG swW;rfl,rfl⟩
  ·rw [if_neg e]
   simp only [if_neg e]
   exact ⟨rfl,fun j hj=>by unfold swG swW;rfl,rfl⟩
 ·rw [if_neg c]
  simp only [if_neg c]
  exact ⟨rfl,fun j hj=>by unfold swG swW;rfl,rfl⟩
theorem sw_write {s:GaS (swG tb)} (hq:s.q=((1,0,0):SwT)) (hf:∀ j,j<3→s.f j=swW s.s j) (hc:s.c=(show SwS from s.s).2) :
  WriteT (swAcc tb r sb says turn fin wg Pm) [1,2] s fun o s'=>s'.q=((1,9,0):SwT)∧(∀ j,j<3→s'.f j=swW s'.s j)∧s'.c=(show SwS from s'.s).2:=by
 refine ga_go (op:=1) (F:=fun s:SwS=>if s.1.1%2=0 then (s,((1,1,s.1.1):SwT)) else (s,((1,9,0):SwT))) rfl (by rw [hq];rfl) hf hc (fun _ _=>trivial) fun s1 n1 hn1 _=>⟨by omega,?_⟩
 obtain ⟨⟨a1,b1,c1⟩,t1⟩:=s1
 show if a1%2=0 then _ else _
 by_cases c:a1%2=0
 ·rw [if_pos c]
  simp only [if_pos c]
  refine ga_go (op:=5) (w:=0) (F:=fun s:SwS=>if s.1.1=a1 then ((((a1+1)%18446744073709551616,s.1.2),s.2),((1,2,a1):SwT)) else (s,((1,9,0):SwT))) rfl rfl (fun j hj=>rfl) rfl (fun _ _=>trivial) fun s2 n2 hn2 _=>⟨by omega,?_⟩
  obtain ⟨⟨a2,b2,c2⟩,t2⟩:=s2
  show if a2=a1 then _ else _
  by_cases e:a2=a1
  ·rw [if_pos e]
   simp only [if_pos e]
   refine ga_go (op:=2) (w:=1) (F:=fun s:SwS=>(((s.1.1,1,s.1.2.2),s.2),((1,3,a1):SwT))) rfl rfl (fun j hj=>?_) rfl (fun _ _=>trivial) fun s3 n3 hn3 _=>⟨by omega,?_⟩
   ·match j,hj with
    | 0,_=>rfl
    | 1,_=>rfl
    | 2,_=>rfl
   refine ga_go (op:=2) (w:=2) (F:=fun s:SwS=>(((s.1.1,s.1.2.1,2),s.2),((1,4,a1):SwT))) rfl rfl (fun j hj=>?_) rfl (fun _ _=>trivial) fun s4 n4 hn4 _=>⟨by omega,?_⟩
   ·match j,hj with
    | 0,_=>rfl
    | 1,_=>rfl
    | 2,_=>rfl
   refine ga_go (op:=2) (w:=0) (F:=fun s:SwS=>((((a1+2)%18446744073709551616,s.1.2),s.2),((1,9,0):SwT))) rfl rfl (fun j hj=>?_) rfl (fun _ _=>trivial) fun s5 n5 hn5 _=>⟨by omega,?_⟩
   ·match j,hj with
    | 0,_=>rfl
    | 1,_=>rfl
    | 2,_=>rfl
   refine ⟨rfl,fun j hj=>?_,rfl⟩
   match j,hj with
   | 0,_=>rfl
   | 1,_=>rfl
   | 2,_=>rfl
  ·rw [if_neg e]
   simp only [if_neg e]
   exact ⟨rfl,fun j hj=>rfl,rfl⟩
 ·rw [if_neg c]
  simp only [if_neg c]
  exact ⟨rfl,fun j hj=>rfl,rfl⟩
abbrev swRo (rb r:Nat):HProp:=fro rb 0 [.pointer (some ⟨r,0,none⟩)]
abbrev swF1 (rb tb:Nat):Value:=.func (.func 42) #[] #[.pointer (some ⟨rb,0,none⟩),.pointer (some ⟨tb,0,none⟩)]
abbrev swF2 (rb:Nat):Value:=.func (.func 43) #[] #[.pointer (some ⟨rb,0,none⟩)]
theorem sw1_ok {rb:Nat}:ThrOk ((swG tb).g (sAddr r) 3 (sK r 2)) (fun s=>(s,((0,0,0):SwT))) (swF1 rb tb) (swRo rb r) where
 run:=by
  refine ⟨_,_,_,rfl,inferInstance,fun sb says turn fin wg (s:SwS) m F hok=>?_⟩
  show Tr Try.prog tH _ [gateV sb,.pointer (some ⟨rb,0,none⟩),.pointer (some ⟨tb,0,none⟩)] _ (tx ((swG tb).g (sAddr r) 3 (sK r 2)) says turn fin wg (.busy s ((0,0,0):SwT) m)) _
  refine tr_star (gaC (swG tb) (sAddr r) 3 (sK r 2) sb says turn fin (all []) (swW s) s.2::swRo rb r::F) (fun hp st=>?_) ?_
  ·have s1:Star (wds (sAddr r) 3 (sK r 2) (swW s)::swZ tb s.2::seatR sb says turn fin::swRo rb r::F) hp:=star_open (M:=[_,_]) st
   have s2:Star (all []::wds (sAddr r) 3 (sK r 2) (swW s)::swZ tb s.2::seatR sb says turn fin::swRo rb r::F) hp:=star_shut (M:=[]) s1
   exact star_shut (M:=[_,_,_,_]) (Ent.star (.take (.there .here) (.take (.there .here) (.take (.there .here) (.take .here .refl)))) s2)
  have q1:∀ {c:HProp},Rd (c::swRo rb r::F) rb 0 (.pointer (some ⟨r,0,none⟩)):=fun {c}=>.there (Rd.fro (k:=0) rfl rfl)
  refine tr_of_body Try.func42 rfl Try.ntmps42 (by simp) fun um Q _ hQ=>?_
  simp only [argE,Nat.zero_add,Nat.reduceAdd]
  repeat (first | (apply wo_po;apply mo_load;exact rfl;exact q1;exact trivial) | (refine wR ?_;try simp only [oS]) | refine wM ?_)
  refine wo_call (.cons rfl (.cons rfl .nil)) trivial (read_tr (A:=swAcc tb r sb says turn fin wg (all [])) sw_at (s:=⟨swW s,s.2,s,((0,0,0):SwT),m⟩) (sw_read rfl (fun j hj=>rfl) rfl) .here) ?_
  rintro v L' x' ⟨q,s',rv,⟨hq,hf,hz⟩,_,rfl,rfl,rfl⟩
  refine wo_star (arr tb 0 [.int .i64 ((show Nat from s'.c):Nat)]::wds (sAddr r) 3 (sK r 2) s'.f::seatR sb says turn fin::F) (fun hp st=>?_) ?_
  ·have s1:Star (wds (sAddr r) 3 (sK r 2) s'.f::swZ tb s'.c::seatR sb says turn fin::all []::vec 1 rv ((rdW q).map num)::swRo rb r::F) hp:=star_open (M:=[_,_,_,_]) st
   have s2:Star (arr tb 0 [.int .i64 ((show Nat from s'.c):Nat)]::wds (sAddr r) 3 (sK r 2) s'.f::seatR sb says turn fin::all []::vec 1 rv ((rdW q).map num)::swRo rb r::F) hp:=star_open (M:=[_]) (Ent.star (.take (.there .here) .refl) s1)
   exact Ent.star (.take .here (.take .here (.take .here (.drop (.drop (.drop .refl)))))) s2
  repeat (first | refine wS ?_ | refine wo_nil ?_ | refine wM ?_ | (apply wo_po;apply mo_extract;exact rfl;exact rfl;exact gY))
  (first | refine or0 Try.func42 Try.results42 hQ ?_ | refine on0 Try.func42 Try.results42 hQ ?_)
  refine ⟨s'.s,s'.q,s'.n,rfl,?_,fun hp st=>?_⟩
  ·show swPlan s'.q=none
   rw [hq];rfl
  ·have e:(.int .i64 (if q.isSome=true then 0 else 51):Value)=.int .i64 (((show SwS from s'.s).2:Nat):Int):=by rw [hz];split <;> rfl
   have s1:Star (swZ tb (show SwS from s'.s).2::wds (sAddr r) 3 (sK r 2) s'.f::seatR sb says turn fin::F) hp:=star_shut (M:=[_]) (by rw [e] at st;exact st)
   have s2:Star (wds (sAddr r) 3 (sK r 2) (swW s'.s)::swZ tb (show SwS from s'.s).2::seatR sb says turn fin::F) hp:=star_map (star_swap s1) (wds_congr hf) fun _ z=>z
   exact star_map (star_shut (M:=[_,_]) s2) (fun _ z=>z) fun _ z=>star_map z (fun _ z=>z) fun _ z=>star_shut (M:=[]) z
theorem sw2_ok {rb:Nat}:ThrOk ((swG tb).g (sAddr r) 3 (sK r 2)) (fun s=>(s,((1,0,0):SwT))) (swF2 rb) (swRo rb r) where
 run:=by
  refine ⟨_,_,_,rfl,inferInstance,fun sb says turn fin wg (s:SwS) m F hok=>?_⟩
  show Tr Try.prog tH _ [gateV sb,.pointer (some ⟨rb,0,none⟩)] _ (tx ((swG tb).g (sAddr r) 3 (sK r 2)) says turn fin wg (.busy s ((1,0,0):SwT) m)) _
  refine tr_star (gaC (swG tb) (sAddr r) 3 (sK r 2) sb says turn fin (all []) (swW s) s.2::swRo rb r::F) (fun hp st=>?_) ?_
  ·have s1:Star (wds (sAddr r) 3 (sK r 2) (swW s)::swZ tb s.2::seatR sb says turn fin::swRo rb r::F) hp:=star_open (M:=[_,_]) st
   have s2:Star (all []::wds (sAddr r) 3 (sK r 2) (swW s)::swZ tb s.2::seatR sb says turn fin::swRo rb r::F) hp:=star_shut (M:=[]) s1
   exact star_shut (M:=[_,_,_,_]) (Ent.star (.take (.there .here) (.take (.there .here) (.take (.there .here) (.take .here .refl)))) s2)
  have q1:∀ {c d:HProp},Rd (c::swRo rb r::F) rb 0 (.pointer (some ⟨r,0,none⟩)):=fun {c d}=>.there (Rd.fro (k:=0) rfl rfl)
  refine tr_of_body Try.func43 rfl Try.ntmps43 (by simp) fun um Q _ hQ=>?_
  simp only [argE,Nat.zero_add,Nat.reduceAdd]
  repeat (first | (apply wo_po;apply mo_load;exact rfl;exact q1 (d:=all []);exact trivial) | (apply wo_mo;apply mo_buildSlice (sz:=1) (vs:=[num 1,num 2]);exact rfl;exact .cons rfl (.cons rfl .nil);exact rfl;(intro v hv;simp at hv;rcases hv with rfl | rfl <;> rfl);omega;exact trivial) | (refine wR ?_;try simp only [oS]) | refine wM ?_)
  rintro v' L' ⟨nb,rfl,rfl⟩
  skip
  refine wo_call (.cons rfl (.cons rfl (.cons rfl .nil))) trivial (write_tr (A:=swAcc tb r sb says turn fin wg (all [])) sw_at (ws:=[1,2]) rfl (by decide) (s:=⟨swW s,s.2,s,((1,0,0):SwT),m⟩) (sw_write rfl (fun j hj=>rfl) rfl) (.there .here) ⟨rfl,.inr ⟨_,_,rfl,Rds.all .here⟩⟩) ?_
  rintro v L' x' ⟨q,s',⟨hq,hf,hz⟩,rfl,rfl,rfl⟩
  repeat (first | refine wo_nil ?_)
  (first | refine or0 Try.func43 Try.results43 hQ ?_ | refine on0 Try.func43 Try.results43 hQ ?_)
  refine ⟨s'.s,s'.q,s'.n,rfl,?_,fun hp st=>?_⟩
  ·show swPlan s'.q=none
   rw [hq];rfl
  ·have s1:Star (wds (sAddr r) 3 (sK r 2) s'.f::swZ tb s'.c::seatR sb says turn fin::all []::_) hp:=star_open (M:=[_,_,_,_]) st
   rw [hz] at s1
   have s2:Star (wds (sAddr r) 3 (sK r 2) (swW s'.s)::swZ tb (show SwS from s'.s).2::seatR sb says turn fin::all []::_) hp:=star_map s1 (wds_congr hf) fun _ z=>z
   exact star_map (star_shut (M:=[_,_]) s2) (fun _ z=>z) fun _ z=>star_map z (fun _ z=>z) fun _ z=>star_map z (fun _ _=>trivial) fun _ z=>Ent.star (.drop (.drop .refl)) z
end
def swT (rb tb r:Nat):List (Thr ((swG tb).g (sAddr r) 3 (sK r 2))):=[⟨swF1 rb tb,fun s=>(s,((0,0,0):SwT)),swRo rb r⟩,⟨swF2 rb,fun s=>(s,((1,0,0):SwT)),swRo rb r⟩]
theorem sw_plays {rb tb r:Nat}:playF (swT rb tb r) (((2,7,8),0):SwS) [0,1,0]=(⟨((4,1,2),51),[((0,9,0):SwT),((1,9,0):SwT)],[(0,(1,0)),(1,(1,0)),(0,(1,1)),(0,(1,2)),(1,(5,0)),(0,(1,0)),(1,(2,1)),(1,(2,2)),(1,(2,0))]⟩:PS ((swG tb).g (sAddr r) 3 (sK r 2))):=by kernel_rfl
theorem rdV_two {L F:List HProp} {b:Nat} {l:List Nat} (hh:Has L (arr b 0 (l.map num)) F):RdV L (some ⟨b,0,none⟩) l:=fun i v hi =>
 ⟨b,0,rfl,Rds.all hh i _ (by rw [List.getElem?_map,hi];rfl)⟩
theorem rdV_vec {L F:List HProp} {a:Option Addr} {n c:Nat} {l:List Nat} (hh:Has L (vec 1 (.slice a n c) (l.map num)) F) (hz:a=none→n=0) (hn:n=l.length) (hy:∀ y,a=some y→y=⟨y.block,y.off,none⟩):RdV L a l :=
 RdV.vec hh hy fun e=>List.length_eq_zero_iff.1 (by rw [← hn];exact hz e)
set_option maxHeartbeats 2000000 in
theorem awake_tr {L:List HProp}:Tr Try.prog mT 9 [] L .idle fun v L' x'=>v=.bool true∧L'=L∧x'=.idle:=by
 refine Tr.post (R:=fun v L' x'=>v=.bool true∧x'=MX.idle∧∀ h,Star L' h→Star L h) ?_
  (by rintro v L' x' ⟨rfl,rfl,h2⟩;exact ⟨_,⟨rfl,rfl,rfl⟩,h2⟩)
 refine tr_of_body Try.func9 rfl Try.ntmps9 (by simp) fun um Q _ hQ=>?_
 simp only [argE,Nat.zero_add,Nat.reduceAdd]
 repeat (first | (apply wo_mo;apply mo_buildSlice (sz:=1) (vs:=[num 5,num 6]);exact rfl;exact .cons rfl (.cons rfl .nil);exact rfl;(intro v hv;simp at hv;rcases hv with rfl | rfl <;> rfl);omega;exact trivial) | refine we_seq ?_ | (refine wR ?_;try simp only [oS]) | refine wo_nil ?_ | refine wA ?_)
 rintro v' L' ⟨b1,rfl,rfl⟩
 refine wo_ent (arr b1 0 ([5,6].map num)::L) .refl ?_
 skip
 refine wo_call (.cons rfl .nil) trivial (snew_tr (n:=2) (ws:=[5,6]) (by omega) (by omega) rfl (by decide) ⟨rfl,.inr ⟨_,_,rfl,Rds.all .here⟩⟩) ?_
 rintro v' L' x' ⟨r,rfl,rfl,rfl⟩
 repeat (first | (apply wo_mo;apply mo_alloc;exact trivial) | refine wM ?_ | (apply wo_po;apply mo_extract;exact rfl;exact rfl;exact gY))
 rintro v' L' ⟨rb,rfl,rfl⟩
 repeat (first | refine wS ?_ | refine wneqF ?_ | refine we_seq ?_ | (refine wR ?_;try simp only [oS]) | refine wo_nil ?_ | refine wM ?_ | refine wA ?_ | refine wJ ?_ | refine wL ?_ | (apply wo_po;apply mo_bin;exact rfl;exact rfl;apply bin_eq;apply eql_ptr_nil;exact gY) | refine wF ?_ | refine we_skip ?_)
 refine wo_call .nil trivial new_notes_tr ?_
 rintro v' L' x' ⟨nb,rfl,rfl,rfl⟩
 refine wo_star (all [sC r 2 (recF [5,6] 0),notesC nb []]::arr rb 0 [.pointer (some ⟨r,0,none⟩)]::arr b1 0 ([5,6].map num)::L) (fun h st=>star_shut (M:=[_,_]) (Ent.star (.take (.there (.there .here)) (.take .here (.take .here .refl))) st)) ?_
 repeat (first | (apply wo_po;apply mo_makeInterface;exact rfl;exact trivial) | (apply wo_mo;apply mo_buildSlice (sz:=1) (vs:=[num 7,num 8]);exact rfl;exact .cons rfl (.cons rfl .nil);exact rfl;(intro v hv;simp at hv;rcases hv with rfl | rfl <;> rfl);omega;exact trivial) | refine we_seq ?_ | (refine wR ?_;try simp only [oS]) | refine wo_nil ?_ | refine wM ?_ | refine wA ?_ | refine wL ?_)
 rintro v' L' ⟨b2,rfl,rfl⟩
 refine wo_ent (arr b2 0 ([7,8].map num)::all [sC r 2 (recF [5,6] 0),notesC nb []]::arr rb 0 [.pointer (some ⟨r,0,none⟩)]::arr b1 0 ([5,6].map num)::L) .refl ?_
 skip
 refine wo_call (.cons rfl (.cons rfl (.cons rfl .nil))) trivial (write_note (n:=2) (ws:=[5,6]) (ws':=[7,8]) (v:=0) (by omega) (by omega) rfl (by decide) rfl (by omega) (by decide) (.there .here) ⟨rfl,.inr ⟨_,_,rfl,Rds.all .here⟩⟩) ?_
 rintro v' L' x' ⟨rfl,rfl,rfl⟩
 repeat (first | refine we_seq ?_ | (refine wR ?_;try simp only [oS]) | refine wo_nil ?_ | refine wM ?_ | refine wA ?_ | (apply wo_po;apply mo_extract;exact rfl;exact rfl;exact gY) | refine wL ?_)
 refine wo_call (.cons rfl (.cons rfl .nil)) trivial (read_lone (n:=2) (ws:=[7,8]) (v:=2) (by omega) (by omega) rfl rfl .here) ?_
 rintro v' L' x' ⟨rv,rfl,rfl,rfl⟩
 refine wo_pure (of_has (.there .here) (vec_shape (by omega))) ?_
 rintro ⟨ra,rl,rc,rfl,hlen,hrc,hra,hra2⟩
 obtain rfl:rl=2:=by simp at hlen;omega
 repeat (first | (apply wo_mo;apply mo_buildSlice (sz:=1) (vs:=[num 7,num 8]);exact rfl;exact .cons rfl (.cons rfl .nil);exact rfl;(intro v hv;simp at hv;rcases hv with rfl | rfl <;> rfl);omega;exact rfl) | refine wneqF ?_ | refine we_seq ?_ | (refine wR ?_;try simp only [oS]) | refine wo_nil ?_ | refine wM ?_ | refine wA ?_ | refine wJ ?_ | (apply wo_po;apply mo_extract;exact rfl;exact rfl;exact gY))
 rintro v' L' ⟨b3,rfl,rfl⟩
 refine wo_ent (arr b3 0 ([7,8].map num)::sC r 2 (recF [7,8] 2)::vec 1 (.slice ra 2 rc) ([7,8].map num)::notesC nb (writeMs 2)::arr rb 0 [.pointer (some ⟨r,0,none⟩)]::L) (.take .here (.take .here (.take .here (.take .here (.take (.there .here) (.drop (.drop .refl))))))) ?_
 skip
 refine wo_call (.cons rfl (.cons rfl .nil)) rfl (same_words_tr (l:=[7,8]) (l':=[7,8]) rfl rfl (by omega) (rdV_vec (.there (.there .here)) hra rfl hra2) (rdV_two .here)) ?_
 rintro v' L' x' ⟨rfl,rfl,rfl⟩
 repeat (first | refine wM ?_ | refine wJ ?_ | (apply wo_po;apply mo_not;exact rfl;exact gY))
 refine wo_call (.cons rfl .nil) rfl (marks_tr (marks:=writeMs 2) (by decide) (.there (.there (.there .here)))) ?_
 rintro mv L' x' ⟨rfl,rfl⟩
 refine wo_pure (of_has .here (vec_shape (by omega))) ?_
 rintro ⟨ma,ml,mc,rfl,hml,_⟩
 obtain rfl:ml=5:=by simp [writeMs,wMarks,mark2] at hml;omega
 repeat (first | (apply wo_mo;apply mo_alloc;exact trivial) | refine wneqF ?_ | refine we_seq ?_ | (refine wR ?_;try simp only [oS]) | refine wo_nil ?_ | refine wJ ?_ | refine wE ?_ | refine wF ?_ | refine we_skip ?_)
 rintro v' L' ⟨tb,rfl,rfl⟩
 repeat (first | refine wS ?_ | refine we_seq ?_ | (refine wR ?_;try simp only [oS]) | refine wo_nil ?_)
 refine wo_ent (arr tb 0 [.int .i64 0]::sC r 2 (recF [7,8] 2)::arr rb 0 [.pointer (some ⟨r,0,none⟩)]::L) (.take .here (.take (.there (.there (.there .here))) (.take (.there (.there (.there (.there .here)))) (.drop (.drop (.drop (.drop .refl))))))) ?_
 repeat (first | (apply wo_mo;apply mo_buildSlice (sz:=1) (vs:=[.int .i64 0,.int .i64 1,.int .i64 0]);exact rfl;exact .cons rfl (.cons rfl (.cons rfl .nil));exact rfl;(intro v hv;simp at hv;rcases hv with rfl | rfl | rfl <;> rfl);omega;exact trivial))
 rintro v' L' ⟨ob,rfl,rfl⟩
 repeat (first | (apply wo_po;apply mo_makeFunc (first:=[]) (cap:=[_,_]) (vf:=[]);exact .nil;exact .cons rfl (.cons rfl .nil);exact trivial) | (apply wo_po;apply mo_makeFunc (first:=[]) (cap:=[_]) (vf:=[]);exact .nil;exact .cons rfl .nil;exact trivial) | (apply wo_mo;apply mo_buildSlice (sz:=1) (vs:=[swF1 rb tb,swF2 rb]);exact rfl;exact .cons rfl (.cons rfl .nil);exact rfl;(intro v hv;simp at hv;rcases hv with rfl | rfl <;> rfl);omega;exact trivial))
 rintro v' L' ⟨fb,rfl,rfl⟩
 refine wo_ent (arr fb 0 [swF1 rb tb,swF2 rb]::arr ob 0 [.int .i64 0,.int .i64 1,.int .i64 0]::arr tb 0 [.int .i64 0]::sC r 2 (recF [7,8] 2)::arr rb 0 [.pointer (some ⟨r,0,none⟩)]::L) .refl ?_
 refine wo_frz (b:=rb) (o:=0) (.there (.there (.there (.there .here)))) ?_
 refine wo_star (((swG tb).g (sAddr r) 3 (sK r 2)).U (((2,7,8),0):SwS)::all ((swT rb tb r).map Thr.M)::arr fb 0 [swF1 rb tb,swF2 rb]::arr ob 0 [.int .i64 0,.int .i64 1,.int .i64 0]::L) (fun h st=>?_) ?_
 ·have s1:Star (swRo rb r::swRo rb r::_) h:=fro_two st
  have s2:Star (all ((swT rb tb r).map Thr.M)::_) h:=star_shut (M:=[_,_]) s1
  have s3:Star (swZ tb 0::_) h:=star_shut (M:=[_]) (Ent.star (.take (.there (.there (.there .here))) .refl) s2)
  have s4:Star (wds (sAddr r) 3 (sK r 2) (swW ((2,7,8),0))::swZ tb 0::_) h:=star_map (Ent.star (.take (.there (.there (.there (.there .here)))) .refl) s3) (wds_congr fun j hj=>by
   match j,hj with
   | 0,_=>rfl
   | 1,_=>rfl
   | 2,_=>rfl) fun _ z=>z
  have s5:Star (((swG tb).g (sAddr r) 3 (sK r 2)).U (((2,7,8),0):SwS)::_) h:=star_shut (M:=[_,_]) s4
  exact Ent.star (.take .here (.take .here (.take .here (.take .here .refl)))) s5
 refine wo_call (.cons rfl (.cons rfl .nil)) trivial (plays_tr (order:=[0,1,0]) (ts:=swT rb tb r) (s0:=(((2,7,8),0):SwS)) (fun _=>True) (fun _ _=>trivial) trivial (fun _ _ _=>trivial) (fun _ _ _=>trivial) (fun _ _ _=>trivial)
   (by intro t ht;simp [swT] at ht;rcases ht with rfl | rfl;exact sw1_ok;exact sw2_ok) (Nat.zero_lt_succ _) (by show 2≤16;omega) (by show 3≤16384;omega)
   ⟨rfl,.inr ⟨_,_,rfl,Rds.all .here⟩⟩ ⟨rfl,.inr ⟨_,_,rfl,Rds.all (.there .here)⟩⟩) ?_
 rw [sw_plays]
 rintro v' L' x' ⟨tv,cv,rfl,rfl,rfl⟩
 refine wo_pure (of_has .here (vec_shape (by omega))) ?_
 rintro ⟨a1,n1,c1,rfl,hn1,_,hz1,hy1⟩
 refine wo_pure (of_has (.there .here) (vec_shape (by omega))) ?_
 rintro ⟨a2,n2,c2,rfl,hn2,_⟩
 refine wo_star (arr tb 0 [.int .i64 51]::L) (fun h st=>?_) ?_
 ·have s1:Star (wds (sAddr r) 3 (sK r 2) (swW ((4,1,2),51))::swZ tb 51::_) h:=star_open (M:=[_,_]) (Ent.star (.take (.there (.there .here)) .refl) st)
  have s2:Star (arr tb 0 [.int .i64 51]::_) h:=star_open (M:=[_]) (Ent.star (.take (.there .here) .refl) s1)
  exact Ent.star (.take .here (.drop (.drop (.drop (.drop (.drop (.drop .refl))))))) s2
 repeat (first | (apply wo_mo;apply mo_alloc;exact trivial) | refine wM ?_ | (apply wo_po;apply mo_extract;exact rfl;exact rfl;exact gY))
 rintro v' L' ⟨pb,rfl,rfl⟩
 repeat (first | (apply wo_pm;apply mo_storeA (c:=0) (k:=0) (a:=0) (vs:=[.slice none 0 0,.slice none 0 0]);exact rfl;exact rfl;exact rfl;(intro w hw;simp [Value.cells] at hw;rcases hw with rfl | rfl <;> rfl);exact rfl;exact Nat.le_refl 2;exact .here;exact trivial) | refine weqlT ?_ | refine we_seq ?_ | (refine wR ?_;try simp only [oS]) | refine wo_nil ?_ | refine wM ?_ | refine wA ?_ | refine wK ?_ | refine wL ?_ | refine we_ret ?_)
 (first | refine or1 Try.func9 Try.results9 hQ rfl ?_ | refine on1 Try.func9 Try.results9 hQ rfl ?_)
 exact ⟨rfl,rfl,fun h st=>Ent.star (.drop (.drop .refl)) st⟩
end
section
section
variable {B:Hand} [Lets B] {x:B.X} {L F:List HProp}
end
theorem rdsoV {L F:List HProp} {a:Option Addr} {n c:Nat} {cs:List Value} (hh:Has L (vec 1 (.slice a n c) cs) F) (hn:cs.length=n) (hz:a=none→n=0) (hy:∀ y,a=some y→y=⟨y.block,y.off,none⟩):RdsO L a n cs:=by
 refine ⟨hn.symm,?_⟩
 cases a with
 | none=>exact .inl (hz rfl)
 | some y =>
  refine .inr ⟨y.block,y.off,by rw [hy y rfl],?_⟩
  have e:=hy y rfl
  rw [e] at hh
  exact fun i v hi=>rd_vec hh hi
end
section
def filledN (n v:Nat):List Nat:=(List.range n).map fun i=>v*100+i
theorem range_snoc {α:Type} {f:Nat→α} {i:Nat}:(List.range (i+1)).map f=(List.range i).map f++[f i]:=by simp [List.range_succ]
section
variable {B:Hand} [Lets B] {x:B.X} {L F:List HProp}
def filInv (n v:Nat) (x:B.X) (L:List HProp):PB.Inv (Nat × Value) B.X where
 e:=fun i=>[(0,.int .i64 (n:Nat)),(1,.int .u64 (v:Nat)),(5,i.2),(6,.int .i64 (i.1:Nat))]
 L:=fun i=>vec 1 i.2 ((filledN i.1 v).map num)::L
 x:=fun _=>x
 ok:=fun i=>i.1≤n
theorem filled_tr {n v:Nat} (hn:n≤16) (hv:v≤1000000) :
  Tr Try.prog B 12 [.int .i64 (n:Nat),.int .u64 (v:Nat)] L x fun rv L' x'=>L'=vec 1 rv ((filledN n v).map num)::L∧x'=x:=by
 refine Tr.post (R:=fun rv L' x'=>x'=x∧∀ h,Star L' h→Star (vec 1 rv ((filledN n v).map num)::L) h) ?_ (by rintro v L' x' ⟨rfl,h2⟩;exact ⟨_,⟨rfl,rfl⟩,h2⟩)
 refine tr_star (vec 1 (.slice none 0 0) []::L) (fun h st=>vec_nil st) ?_
 refine tr_of_body Try.func12 rfl Try.ntmps12 (by simp) fun um Q _ hQ=>?_
 simp only [argE,Nat.zero_add,Nat.reduceAdd]
 repeat (first | refine we_seq ?_ | (refine wR ?_;try simp only [oS]) | refine wo_nil ?_ | refine wA ?_ | refine we_block ?_)
 refine we_loopN (filInv n v x L) (fun i=>n-i.1) (0,.slice none 0 0) (Nat.zero_le _) ⟨rfl,rfl,rfl,rfl,trivial⟩ .refl rfl ?_
 rintro ⟨i,sv⟩ hi
 replace hi:i≤n:=hi
 simp only [filInv]
 refine we_pure (of_has .here (vec_shape (by omega))) ?_
 rintro ⟨a,m,c,rfl,hm,_⟩
 obtain rfl:m=i:=by simp [filledN] at hm;omega
 by_cases hlt:m<n
 ·have h1:IntKind.u64.wrap ((v:Int)*100)=((v*100:Nat):Int):=(wrap_u64 (by omega) (by omega)).trans (by omega)
  have h2:IntKind.u64.wrap (((v*100:Nat):Int)+(m:Int))=((v*100+m:Nat):Int):=(wrap_u64 (by omega) (by omega)).trans (by omega)
  repeat (first | (apply wo_po;apply mo_bin;exact rfl;exact rfl;apply bin_mul;exact h1;exact trivial) | (apply wo_po;apply mo_bin;exact rfl;exact rfl;apply bin_add;exact h2;exact trivial) | (apply wo_mo;apply mo_buildSlice (sz:=1) (vs:=[num (v*100+m)]);exact rfl;exact .cons rfl .nil;exact rfl;(intro v hv;cases (List.mem_singleton.1 hv);exact rfl);omega;exact trivial) | refine wlssT ?_ | refine we_seq ?_ | (refine wR ?_;try simp only [oS]) | refine wo_nil ?_ | refine wM ?_ | (apply wo_po;apply mo_conv;exact rfl;(first | exact wrap_i64 (by omega) (by omega) | exact wrap_u64 (by omega) (by omega));exact gY) | refine wT ?_ | refine we_skip ?_ | refine we_block ?_)
  rintro v' L' ⟨nb,rfl,rfl⟩
  repeat (first | (apply wo_mo;apply mo_append (sz:=1) (new:=[num (v*100+m)]);exact rfl;exact rfl;exact rfl;exact rfl;exact (.there .here);exact rfl;exact .inr ⟨_,_,rfl,Rds.all .here⟩;(intro v hv;cases (List.mem_singleton.1 hv);exact rfl);(simp only [sliceLen];omega);exact trivial))
  rintro v' L' rfl
  repeat (first | (refine wR ?_;try simp only [oS]) | refine wo_nil ?_ | refine wM ?_ | refine wA ?_ | refine wadd ?_)
  refine at_round (I:=filInv n v x L) (R:=fun j=>n-j.1<n-m) (m+1,v') (by show n-(m+1)<n-m;omega) (show m+1≤n by omega) ⟨rfl,rfl,rfl,rfl,trivial⟩ ?_ rfl
  show Ent _ (vec 1 v' ((filledN (m+1) v).map num)::L)
  unfold filledN
  rw [range_snoc,List.map_append]
  exact (.take .here (.drop .refl))
 ·obtain rfl:m=n:=by omega
  repeat (first | refine wlssF ?_ | refine we_seq ?_ | (refine wR ?_;try simp only [oS]) | refine wo_nil ?_ | refine wM ?_ | refine wA ?_ | refine wF ?_ | refine we_ret ?_ | refine we_exit ?_)
  (first | refine or1 Try.func12 Try.results12 hQ rfl ?_ | refine on1 Try.func12 Try.results12 hQ rfl ?_)
  exact ⟨rfl,fun h st=>st⟩
end
theorem filledN_len {n v:Nat}:(filledN n v).length=n:=by simp [filledN]
theorem filledN_lt {n v:Nat} (hn:n≤16) (hv:v≤1000000):∀ w∈filledN n v,w<18446744073709551616:=by
 intro w hw
 simp only [filledN,List.mem_map,List.mem_range] at hw
 obtain ⟨i,hi,rfl⟩:=hw
 omega
end
end Go.Proofs.Ytodgemainhokjaa
namespace Go.PB
open Go
section
def Dup (c:HProp):Prop:=∀ (L:List HProp) (h:Hp),Star (c::L) h→Star (c::c::L) h
theorem dup_fro {b o:Nat} {vs:List Value}:Dup (fro b o vs):=fun L h s=>fro_two s
theorem dup_base {W:World}:Dup (base W):=fun L h s=>by
 obtain ⟨h1,h2,s1,ha,hL⟩:=s
 exact ⟨⟨fun _ _=>none,h1.ro,fun _=>none,fun _=>none⟩,h,⟨fun _ _ _ e=>s1.r1 _ _ _ e,fun _ _ _ e=>e,fun _ _ _ e=>by simp at e,fun _ _ _ e=>e,fun _ _=>.inl rfl,fun _ _ e=>by simp at e,fun _ _ e=>e,fun _=>.inl rfl,fun _ _ e=>by simp at e,fun _ _ e=>e⟩,ha,h1,h2,s1,ha,hL⟩
theorem all_cons {c:HProp} {M L:List HProp} {h:Hp} (s:Star (all (c::M)::L) h):Star (c::all M::L) h :=
 star_map (star_open (M:=c::M) s) (fun _ z=>z) fun _ z=>star_shut z
theorem cons_all {c:HProp} {M L:List HProp} {h:Hp} (s:Star (c::all M::L) h):Star (all (c::M)::L) h :=
 star_shut (M:=c::M) (star_map s (fun _ z=>z) fun _ z=>star_open z)
theorem dup_all:∀ {M:List HProp},(∀ c∈M,Dup c)→Dup (all M)
 | [],_=>fun L h s=>star_shut (M:=[]) s
 | c::M,hM=>fun L h s=>by
  have s1:=hM c (by simp) _ _ (all_cons s)
  have s2:Star (all M::c::c::L) h:=Ent.star (.take (.there (.there .here)) (.take .here (.take .here .refl))) s1
  have s3:=dup_all (fun d hd=>hM d (by simp [hd])) _ _ s2
  have s4:Star (c::all M::c::all M::L) h:=Ent.star (.take (.there (.there .here)) (.take .here (.take (.there .here) (.take .here .refl)))) s3
  exact cons_all (star_map s4 (fun _ z=>z) fun _ z=>star_map z (fun _ z=>z) fun _ z=>cons_all z)
theorem dup_many {c:HProp} (hc:Dup c) {L:List HProp} {h:Hp} (s:Star (c::L) h):∀ n,Star (all (List.replicate n c)::c::L) h
 | 0=>star_shut (M:=[]) s
 | n+1=>by
  have s1:=dup_many hc s n
  have s2:=hc _ _ (star_swap s1)
  have s3:Star (c::all (List.replicate n c)::c::L) h:=Ent.star (.take .here (.take (.there .here) (.take .here .refl))) s2
  rw [List.replicate_succ]
  exact cons_all s3
theorem star_zip:∀ {As Bs L:List HProp} {h:Hp},As.length=Bs.length→Star (all As::all Bs::L) h→Star (all (List.zipWith (fun a b=>all [a,b]) As Bs)::L) h
 | [],[],L,h,_,s=>star_shut (M:=[]) (star_drop (star_drop s))
 | [],b::Bs,L,h,e,s=>by simp at e
 | a::As,[],L,h,e,s=>by simp at e
 | a::As,b::Bs,L,h,e,s=>by
  have s1:=all_cons s
  have s2:Star (all (b::Bs)::a::all As::L) h:=Ent.star (.take (.there (.there .here)) (.take .here (.take .here .refl))) s1
  have s3:=all_cons s2
  have s4:Star (all As::all Bs::a::b::L) h:=Ent.star (.take (.there (.there (.there .here))) (.take (.there .here) (.take (.there .here) (.take .here .refl)))) s3
  have s5:=star_zip (by simpa using e) s4
  have s6:Star (a::b::all (List.zipWith (fun a b=>all [a,b]) As Bs)::L) h:=Ent.star (.take (.there .here) (.take (.there .here) (.take .here .refl))) s5
  exact cons_all (star_shut (M:=[_,_]) s6)
theorem star_tail:∀ {M L:List HProp} {h:Hp},Star (M++L) h→Star (all L::M) h
 | [],L,h,s=>star_shut (L:=[]) (by rw [List.append_nil];exact s)
 | c::M,L,h,s=>star_swap (star_map (L:=M++L) s (fun _ z=>z) fun _ z=>star_tail z)
theorem zeros_rep {n:Nat} {v:Value}:zeros n [v]=List.replicate n v:=by
 unfold zeros
 induction n with
 | zero=>rfl
 | succ n ih=>rw [List.replicate_succ,List.flatten_cons,ih,List.replicate_succ];rfl
end
end Go.PB
namespace Go.Proofs.Ytodgemainhokjaa
open Go Go.PB
attribute [local irreducible] Mo Bin Eql Tr Wo Ap Wle
section
theorem rd_all {M L:List HProp} {b o:Nat} {v:Value} (r:Rd M b o v):Rd (all M::L) b o v:=fun h s =>
 r h (star_drop (star_tail (star_open s)))
def wholeB (l:List Nat):Bool:=(List.range l.length).all fun i=>l.getD i 0 == (l.headD 0/100*100+i)%18446744073709551616
def wholeF (l:List Nat):Nat × Bool:=if wholeB l=true then (l.headD 0/100,true) else (0,false)
section
variable {B:Hand} [Lets B] {x:B.X} {L F:List HProp}
def whInv (lv:Value) (l:List Nat) (d:Nat) (x:B.X) (L:List HProp):PB.Inv Nat B.X where
 e:=fun i=>[(0,lv),(2,.int .u64 0),(3,.bool false),(4,.int .u64 (d:Nat)),(5,.int .i64 (i:Nat))]
 L:=fun i=>L
 x:=fun _=>x
 ok:=fun i=>i≤l.length∧∀ j w,j<i→l[j]?=some w→w=(d*100+j)%18446744073709551616
theorem whole_tr {a:Option Addr} {n c:Nat} {l:List Nat} (hr:RdsO L a n (l.map num)) (hn:n≤16) (h1:1≤n) (hb:∀ w∈l,w<18446744073709551616) :
  Tr Try.prog B 49 [.slice a n c] L x fun rv L' x'=>rv=.tuple #[.int .u64 ((wholeF l).1:Nat),.bool (wholeF l).2]∧L'=L∧x'=x:=by
 obtain rfl:n=l.length:=by have:=hr.1;simpa using this
 obtain ⟨b,o,rfl,hrd⟩:=hr.rds (by omega)
 obtain ⟨w0,hw0⟩:∃ w,l[0]?=some w:=⟨l[0]'(by omega),List.getElem?_eq_getElem _⟩
 have hd:l.headD 0=w0:=by
  cases l with
  | nil=>simp at hw0
  | cons y l=>simp at hw0;exact hw0
 have hw0b:=hb w0 (List.mem_of_getElem? hw0)
 have r0:=hrd 0 (.int .u64 (w0:Nat)) (by rw [List.getElem?_map,hw0];rfl)
 have hq:IntKind.u64.wrap ((w0:Int).tdiv 100)=((w0/100:Nat):Int):=by
  rw [show (w0:Int).tdiv 100=((w0/100:Nat):Int) from rfl]
  exact wrap_u64 (by omega) (by omega)
 refine tr_of_body Try.func49 rfl Try.ntmps49 (by simp) fun um Q _ hQ=>?_
 simp only [argE,Nat.zero_add,Nat.reduceAdd]
 repeat (first | (apply wo_po;apply mo_indexAddr (r:=o+0);exact rfl;exact rfl;omega;omega;omega;exact trivial) | (apply wo_po;apply mo_load;exact rfl;exact r0;exact trivial) | (apply wo_po;apply mo_bin;exact rfl;exact rfl;exact bin_quo (by decide) hq;exact trivial) | refine weqlF ?_ | refine we_seq ?_ | (refine wR ?_;try simp only [oS]) | refine wo_nil ?_ | refine wM ?_ | refine wA ?_ | refine wE ?_ | refine wF ?_ | refine we_skip ?_ | refine we_block ?_)
 refine we_loopN (whInv (.slice (some ⟨b,o,none⟩) l.length c) l (w0/100) x L) (fun i=>l.length-i) 0 ⟨Nat.zero_le _,fun j w hj=>by omega⟩ ⟨rfl,rfl,rfl,rfl,rfl,trivial⟩ .refl rfl ?_
 rintro i ⟨hi,hall⟩
 simp only [whInv]
 by_cases hlt:i<l.length
 ·obtain ⟨w,hw⟩:∃ w,l[i]?=some w:=⟨l[i],List.getElem?_eq_getElem hlt⟩
  have r1:=hrd i (.int .u64 (w:Nat)) (by rw [List.getElem?_map,hw];rfl)
  have m1:IntKind.u64.wrap (((w0/100:Nat):Int)*100)=((w0/100*100:Nat):Int):=(wrap_u64 (by omega) (by omega)).trans (by omega)
  have m2:IntKind.u64.wrap (((w0/100*100:Nat):Int)+(i:Int))=(((w0/100*100+i)%18446744073709551616:Nat):Int):=by
   show ((((w0/100*100:Nat):Int)+(i:Int))%_:Int)=_
   norm_cast
  obtain ⟨u,hu⟩:∃ u,(w0/100*100+i)%18446744073709551616=u:=⟨_,rfl⟩
  rw [hu] at m2
  by_cases he:w=u
  ·repeat (first | (apply wo_po;apply mo_indexAddr (r:=o+i);exact rfl;exact rfl;omega;omega;omega;exact trivial) | (apply wo_po;apply mo_load;exact rfl;exact r1;exact trivial) | (apply wo_po;apply mo_bin;exact rfl;exact rfl;apply bin_mul;exact m1;exact trivial) | (apply wo_po;apply mo_bin;exact rfl;exact rfl;apply bin_add;exact m2;exact trivial) | refine wlssT ?_ | refine wneqF ?_ | refine we_seq ?_ | (refine wR ?_;try simp only [oS]) | refine wo_nil ?_ | refine wM ?_ | refine wA ?_ | refine wadd ?_ | refine wE ?_ | (apply wo_po;apply mo_conv;exact rfl;(first | exact wrap_i64 (by omega) (by omega) | exact wrap_u64 (by omega) (by omega));exact gY) | refine wT ?_ | refine wF ?_ | refine we_skip ?_ | refine we_block ?_)
   refine at_round (I:=whInv (.slice (some ⟨b,o,none⟩) l.length c) l (w0/100) x L) (R:=fun j=>l.length-j<l.length-i) (i+1) (by omega) ⟨by omega,fun j v hj hv=>?_⟩ ⟨rfl,rfl,rfl,rfl,rfl,trivial⟩ .refl rfl
   by_cases e:j=i
   ·subst e;rw [hw] at hv;cases hv;rw [hu];exact he
   ·exact hall j v (by omega) hv
  ·repeat (first | (apply wo_po;apply mo_indexAddr (r:=o+i);exact rfl;exact rfl;omega;omega;omega;exact trivial) | (apply wo_po;apply mo_load;exact rfl;exact r1;exact trivial) | (apply wo_po;apply mo_bin;exact rfl;exact rfl;apply bin_mul;exact m1;exact trivial) | (apply wo_po;apply mo_bin;exact rfl;exact rfl;apply bin_add;exact m2;exact trivial) | refine wlssT ?_ | refine wneqT ?_ | refine we_seq ?_ | (refine wR ?_;try simp only [oS]) | refine wo_nil ?_ | refine wM ?_ | refine wA ?_ | refine wE ?_ | (apply wo_po;apply mo_conv;exact rfl;(first | exact wrap_i64 (by omega) (by omega) | exact wrap_u64 (by omega) (by omega));exact gY) | refine wT ?_ | refine we_ret ?_ | refine we_skip ?_ | refine we_block ?_)
   (first | refine or2 Try.func49 Try.results49 hQ rfl rfl ?_ | refine on2 Try.func49 Try.results49 hQ rfl rfl ?_)
   have hf:wholeB l=false:=by
    unfold wholeB
    rw [Bool.eq_false_iff]
    intro h
    have:=List.all_eq_true.1 h i (List.mem_range.2 hlt)
    rw [hd,hu,List.getD_eq_getElem?_getD,hw] at this
    simp only [Option.getD_some,beq_iff_eq] at this
    exact he this
   unfold wholeF
   rw [hf]
   exact ⟨rfl,rfl,rfl⟩
 ·obtain rfl:i=l.length:=by omega
  repeat (first | refine wlssF ?_ | refine we_seq ?_ | (refine wR ?_;try simp only [oS]) | refine wo_nil ?_ | refine wM ?_ | refine wA ?_ | refine wE ?_ | refine wF ?_ | refine we_ret ?_ | refine we_exit ?_)
  (first | refine or2 Try.func49 Try.results49 hQ rfl rfl ?_ | refine on2 Try.func49 Try.results49 hQ rfl rfl ?_)
  have hf:wholeB l=true:=by
   unfold wholeB
   refine List.all_eq_true.2 fun j hj=>?_
   have hj:=List.mem_range.1 hj
   have:=hall j l[j] hj (List.getElem?_eq_getElem hj)
   rw [hd,List.getD_eq_getElem?_getD,List.getElem?_eq_getElem hj]
   simp only [Option.getD_some,beq_iff_eq]
   exact this
  unfold wholeF
  rw [hf,hd]
  exact ⟨rfl,rfl,rfl⟩
theorem writes_tr {mb bk v y:Nat} {zm:List (Int × Value)} {rv:Value} {bd:Bool} :
  Tr Try.prog B 15 [.pointer (some ⟨bk,0,none⟩),.int .u64 (v:Nat),.int .u64 (y:Nat)] (mapC .u64 mb zm::arr bk 0 [.map (some mb),.bool false,rv,.bool bd]::L) x
   fun w L' x'=>L'=mapC .u64 mb (mPut zm (v:Nat) (num y))::arr bk 0 [.map (some mb),.bool (mGet zm (v:Nat)).isSome,rv,.bool bd]::L∧x'=x:=by
 refine tr_of_body Try.func15 rfl Try.ntmps15 (by simp) fun um Q _ hQ=>?_
 simp only [argE,Nat.zero_add,Nat.reduceAdd]
 obtain ⟨g,hg⟩:∃ g,(mGet zm (v:Nat)).isSome=g:=⟨_,rfl⟩
 repeat (first | (apply wo_po;apply mo_lookup2 (ki:=.u64) (k:=((v:Nat):Int)) (l:=zm);exact rfl;exact rfl;exact .here;exact trivial) | refine we_seq ?_ | (refine wR ?_;try simp only [oS]) | refine wo_nil ?_ | refine wM ?_ | refine wA ?_ | refine wJ ?_ | refine wN ?_ | refine wD ?_ | (apply wo_po;apply mo_extract;exact rfl;exact rfl;exact gY) | refine wL ?_)
 rw [hg]
 repeat (first | refine wS ?_ | (apply wo_pm;apply mo_mapUpdate (ki:=.u64) (k:=((v:Nat):Int)) (l:=zm);exact rfl;exact rfl;exact rfl;exact .here;exact trivial) | (refine wR ?_;try simp only [oS]) | refine wo_nil ?_ | refine wM ?_ | refine wN ?_ | refine wD ?_ | refine wL ?_)
 (first | refine or0 Try.func15 Try.results15 hQ ?_ | refine on0 Try.func15 Try.results15 hQ ?_)
 rw [hg]
 exact ⟨rfl,rfl⟩
def bkE (y:Nat × Nat):List Value:=[.int .u64 (y.1:Nat),.int .u64 (y.2:Nat)]
theorem reads_tr {mb bk v n c:Nat} {a:Option Addr} {l:List Nat} {zr:List (Nat × Nat)} {rv:Value} {tw:Bool} (hr:∀ {d1 d2:HProp},RdsO (d1::d2::L) a n (l.map num)) (hn:n≤16) (h1:1≤n) (hb:∀ w∈l,w<18446744073709551616) (hz:zr.length≤100000) :
  Tr Try.prog B 17 [.pointer (some ⟨bk,0,none⟩),.slice a n c,.int .u64 (v:Nat)] (arr bk 0 [.map (some mb),.bool tw,rv,.bool false]::vec 2 rv (zr.map bkE).flatten::L) x
   fun w L' x'=>∃ rv',L'=vec 2 rv' ((zr++[(v,(wholeF l).1)]).map bkE).flatten::arr bk 0 [.map (some mb),.bool tw,rv',.bool (!(wholeF l).2)]::L∧x'=x:=by
 refine Tr.post (R:=fun w L' x'=>x'=x∧∃ rv',∀ h,Star L' h→Star (vec 2 rv' ((zr++[(v,(wholeF l).1)]).map bkE).flatten::arr bk 0 [.map (some mb),.bool tw,rv',.bool (!(wholeF l).2)]::L) h) ?_ (by rintro v L' x' ⟨rfl,rv',h2⟩;exact ⟨_,⟨rv',rfl,rfl⟩,h2⟩)
 refine tr_of_body Try.func17 rfl Try.ntmps17 (by simp) fun um Q _ hQ=>?_
 simp only [argE,Nat.zero_add,Nat.reduceAdd]
 repeat (first | refine we_seq ?_ | (refine wR ?_;try simp only [oS]) | refine wM ?_)
 refine wo_call (.cons rfl .nil) trivial (whole_tr hr hn h1 hb) ?_
 rintro v1 L1 x1 ⟨rfl,rfl,rfl⟩
 obtain ⟨y1,hy1⟩:∃ y,(wholeF l).1=y:=⟨_,rfl⟩
 obtain ⟨y2,hy2⟩:∃ y,(wholeF l).2=y:=⟨_,rfl⟩
 rw [hy1,hy2]
 refine wo_pure (of_has (.there .here) (vec_shape (by omega))) ?_
 rintro ⟨va,vn,vc,rfl,hvn,_⟩
 have hvn':vn=zr.length:=by rw [flat_len (k:=2) (fun _=>rfl)] at hvn;omega
 repeat (first | refine wS ?_ | (apply wo_po;apply mo_buildArr (pv:=[(0,_),(1,_)]);exact rfl;exact .cons rfl (.cons rfl .nil);exact rfl;exact trivial) | refine we_seq ?_ | (refine wR ?_;try simp only [oS]) | refine wo_nil ?_ | refine wM ?_ | refine wA ?_ | refine wJ ?_ | refine wN ?_ | refine wD ?_ | (apply wo_po;apply mo_extract;exact rfl;exact rfl;exact gY) | (apply wo_po;apply mo_not;exact rfl;exact gY) | refine wL ?_)
 repeat (first | (apply wo_mo;apply mo_buildSlice (sz:=2) (vs:=[.agg #[.int .u64 (v:Nat),.int .u64 (y1:Nat)]]);exact rfl;exact .cons rfl .nil;exact rfl;(intro v hv;cases (List.mem_singleton.1 hv);exact rfl);omega;exact trivial))
 rintro v' L' ⟨nb,rfl,rfl⟩
 repeat (first | (apply wo_mo;apply mo_append (sz:=2) (new:=[.int .u64 (v:Nat),.int .u64 (y1:Nat)]);exact rfl;exact rfl;exact rfl;exact rfl;exact (.there (.there .here));exact rfl;exact .inr ⟨_,_,rfl,Rds.all .here⟩;(intro v hv;simp at hv;rcases hv with rfl | rfl <;> rfl);(simp only [sliceLen];omega);exact trivial))
 rintro v' L' rfl
 refine wo_pure (of_has .here (vec_shape (by omega))) ?_
 rintro ⟨ua,un,uc,rfl,_⟩
 repeat (first | refine wS ?_ | refine wo_nil ?_ | refine wN ?_ | refine wD ?_)
 (first | refine or0 Try.func17 Try.results17 hQ ?_ | refine on0 Try.func17 Try.results17 hQ ?_)
 rw [hy1,hy2]
 refine ⟨rfl,.slice ua un uc,fun h st=>?_⟩
 have e:((zr++[(v,y1)]).map bkE).flatten=(zr.map bkE).flatten++[.int .u64 (v:Nat),.int .u64 (y1:Nat)]:=by simp [bkE]
 rw [e]
 exact Ent.star (.take .here (.take (.there .here) (.drop .refl))) st
structure BkOk (zm:List (Int × Value)) (zr:List (Nat × Nat)):Prop where
 m:∀ y∈zm,∃ q:Nat,y.1=((2*(q+1):Nat):Int)∧2*(q+1)<18446744073709551616
 r:∀ y∈zr,(y.1=0∧y.2=0)∨(y.1≠0∧mGet zm ((y.1:Nat):Int)=some (num y.2))
def gdmInv (bk mb r:Nat) (zm:List (Int × Value)) (x:B.X) (L:List HProp):PB.Inv (Nat × Option (Int × Value)) B.X where
 e:=fun _=>[(0,.pointer (some ⟨bk,0,none⟩)),(2,.bool false),(23,.pointer (some ⟨r,0,none⟩))]
 L:=fun i=>ranC .u64 mb r zm i.1 i.2::L
 x:=fun _=>x
 ok:=fun _=>True
def gdrInv (bk n:Nat) (x:B.X) (L:List HProp):PB.Inv Nat B.X where
 e:=fun i=>[(0,.pointer (some ⟨bk,0,none⟩)),(2,.bool false),(4,.int .i64 (i:Nat))]
 L:=fun _=>L
 x:=fun _=>x
 ok:=fun i=>i≤n
theorem good_tr {mb bk:Nat} {zm:List (Int × Value)} {zr:List (Nat × Nat)} {rv:Value} (h:BkOk zm zr) (hz:zr.length≤100000) :
  Tr Try.prog B 20 [.pointer (some ⟨bk,0,none⟩)] (mapC .u64 mb zm::arr bk 0 [.map (some mb),.bool false,rv,.bool false]::vec 2 rv (zr.map bkE).flatten::L) x
   fun v L' x'=>v=.bool true∧L'=mapC .u64 mb zm::arr bk 0 [.map (some mb),.bool false,rv,.bool false]::vec 2 rv (zr.map bkE).flatten::L∧x'=x:=by
 refine tr_of_body Try.func20 rfl Try.ntmps20 (by simp) fun um Q _ hQ=>?_
 simp only [argE,Nat.zero_add,Nat.reduceAdd]
 repeat (first | (apply wo_mo;apply mo_range;exact rfl;exact .here;exact trivial) | refine we_seq ?_ | (refine wR ?_;try simp only [oS]) | refine wo_nil ?_ | refine wM ?_ | refine wA ?_ | refine wJ ?_ | refine wN ?_ | refine wD ?_ | refine wL ?_ | refine wF ?_ | refine we_skip ?_)
 rintro v' L' ⟨r,rfl,rfl⟩
 repeat (first | refine wo_nil ?_ | refine we_block ?_)
 refine we_loopN (gdmInv bk mb r zm x (arr bk 0 [.map (some mb),.bool false,rv,.bool false]::vec 2 rv (zr.map bkE).flatten::L)) (fun i=>i.1) (zm.length,none) trivial ⟨rfl,rfl,rfl,trivial⟩ .refl rfl ?_
 rintro ⟨n,cur⟩ -
 simp only [gdmInv]
 repeat (first | (apply wo_mo;apply mo_next (ki:=.u64);exact rfl;exact .here;exact trivial) | refine we_seq ?_ | (refine wR ?_;try simp only [oS]))
 rintro v' L' (⟨rfl,rfl⟩ | ⟨k,v,n',hmem,hlt,rfl,rfl⟩)
 ·repeat (first | refine we_seq ?_ | (refine wR ?_;try simp only [oS]) | refine wo_nil ?_ | refine wA ?_ | (apply wo_po;apply mo_extract;exact rfl;exact rfl;exact gY) | refine wF ?_ | refine we_block ?_ | refine we_exit ?_)
  refine we_star (mapC .u64 mb zm::arr bk 0 [.map (some mb),.bool false,rv,.bool false]::vec 2 rv (zr.map bkE).flatten::L) (fun hp st=>ranC_map st) ?_
  refine we_pure (of_has (.there (.there .here)) (vec_shape (by omega))) ?_
  rintro ⟨va,vn,vc,rfl,hvn,_,hvz,hvy⟩
  have hvn':vn=zr.length:=by rw [flat_len (k:=2) (fun _=>rfl)] at hvn;omega
  subst hvn'
  refine we_loopN (gdrInv bk zr.length x (mapC .u64 mb zm::arr bk 0 [.map (some mb),.bool false,.slice va zr.length vc,.bool false]::vec 2 (.slice va zr.length vc) (zr.map bkE).flatten::L)) (fun i=>zr.length-i) 0 (Nat.zero_le _) ⟨rfl,rfl,rfl,trivial⟩ .refl rfl ?_
  intro i hi
  replace hi:i≤zr.length:=hi
  simp only [gdrInv]
  by_cases hlt:i<zr.length
  ·obtain ⟨y,hy⟩:∃ y,zr[i]?=some y:=⟨zr[i],List.getElem?_eq_getElem hlt⟩
   have hyr:=h.r y (List.mem_of_getElem? hy)
   obtain ⟨y1,y2⟩:=y
   simp only at hyr
   obtain ⟨lb,lo,rfl⟩:∃ b o,va=some ⟨b,o,none⟩:=by
    cases va with
    | none=>have:=hvz rfl;omega
    | some y=>exact ⟨y.block,y.off,by rw [hvy y rfl]⟩
   obtain ⟨LL,hLL⟩:∃ LL,LL=mapC .u64 mb zm::arr bk 0 [.map (some mb),.bool false,.slice (some ⟨lb,lo,none⟩) zr.length vc,.bool false]::vec 2 (.slice (some ⟨lb,lo,none⟩) zr.length vc) (zr.map bkE).flatten::L:=⟨_,rfl⟩
   have ky:∀ q v,[.int .u64 (y1:Nat),.int .u64 (y2:Nat)][q]?=some v→Rd LL lb (lo+2*i+q) v:=fun q v hq=>by
    have h2:q<2:=(List.getElem?_eq_some_iff.1 hq).1
    rw [hLL]
    have:=rd_vec (i:=2*i+q) (v:=v) (L:=mapC .u64 mb zm::arr bk 0 [.map (some mb),.bool false,.slice (some ⟨lb,lo,none⟩) zr.length vc,.bool false]::vec 2 (.slice (some ⟨lb,lo,none⟩) zr.length vc) (zr.map bkE).flatten::L) (.there (.there .here)) (by rw [flat_get (k:=2) (fun _=>rfl) zr i q _ hy h2];exact hq)
    rwa [← Nat.add_assoc] at this
   have kb:Rd LL bk 2 (.slice (some ⟨lb,lo,none⟩) zr.length vc):=by rw [hLL];exact .there (.row0 rfl)
   have km:Rd LL bk 0 (.map (some mb)):=by rw [hLL];exact .there (.row0 rfl)
   have k1:=ky 0 _ rfl
   have k2:=ky 1 _ rfl
   obtain ⟨LR,hmap⟩:∃ LR,Has LL (mapC .u64 mb zm) LR:=⟨_,by rw [hLL];exact .here⟩
   rw [← hLL]
   repeat (first | (apply wo_po;apply mo_load;exact rfl;exact kb;exact trivial) | refine wlssT ?_ | refine we_seq ?_ | (refine wR ?_;try simp only [oS]) | refine wo_nil ?_ | refine wM ?_ | refine wN ?_ | refine wD ?_ | refine wE ?_ | refine wT ?_ | refine we_skip ?_ | refine we_block ?_)
   refine we_draw (List.range' 0 18) (by kernel_rfl) ?_
   repeat (first | (apply ap_read;exact rfl;exact rfl;exact trivial;apply mo_load;exact rfl;(first | exact kb | exact k1 | exact k2)) | (apply ap_pure;exact rfl;exact rfl;exact trivial;intro L;apply mo_indexAddr (r:=lo+2*i);exact rfl;exact rfl;omega;omega;omega) | (apply ap_pure;exact rfl;exact rfl;exact trivial;intro L;apply mo_indexArr (r:=lo+2*i+0);exact rfl;exact rfl;decide;decide;exact rfl) | (apply ap_pure;exact rfl;exact rfl;exact trivial;intro L;apply mo_indexArr (r:=lo+2*i+1);exact rfl;exact rfl;decide;decide;exact rfl) | refine aM ?_ | refine aA ?_ | refine aN ?_ | refine aD ?_ | refine ap_end ?_)
   rcases hyr with ⟨hy1,hy2⟩ | ⟨hne,hg⟩
   ·repeat (first | (apply wo_po;apply mo_load;exact rfl;exact km;exact trivial) | (apply wo_po;apply mo_lookup2 (ki:=.u64) (k:=((y1:Nat):Int)) (l:=zm);exact rfl;exact rfl;exact hmap;exact trivial) | refine weqlT ?_ | refine wneqF ?_ | refine we_seq ?_ | (refine wR ?_;try simp only [oS]) | refine wo_nil ?_ | refine wM ?_ | refine wA ?_ | (apply wo_no;exact rfl) | (apply wo_nu;exact rfl) | refine wK ?_ | refine wJ ?_ | refine wN ?_ | refine wD ?_ | (apply wo_po;apply mo_extract;exact rfl;exact rfl;exact gY) | refine wadd ?_ | refine wF ?_ | refine we_skip ?_)
    rw [hLL]
    refine at_round (I:=gdrInv bk zr.length x (mapC .u64 mb zm::arr bk 0 [.map (some mb),.bool false,.slice (some ⟨lb,lo,none⟩) zr.length vc,.bool false]::vec 2 (.slice (some ⟨lb,lo,none⟩) zr.length vc) (zr.map bkE).flatten::L)) (R:=fun j=>zr.length-j<zr.length-i) (i+1) (by show zr.length-(i+1)<zr.length-i;omega) (by show i+1≤zr.length;omega) ⟨rfl,rfl,rfl,trivial⟩ .refl rfl
   ·repeat (first | (apply wo_po;apply mo_load;exact rfl;exact km;exact trivial) | (apply wo_po;apply mo_lookup2 (ki:=.u64) (k:=((y1:Nat):Int)) (l:=zm);exact rfl;exact rfl;exact hmap;exact trivial) | refine weqlF ?_ | refine wneqT ?_ | refine we_seq ?_ | (refine wR ?_;try simp only [oS]) | refine wo_nil ?_ | refine wM ?_ | refine wA ?_ | (apply wo_no;exact rfl) | refine wJ ?_ | refine wN ?_ | refine wD ?_ | (apply wo_po;apply mo_extract;exact rfl;exact rfl;exact gY) | (apply wo_po;apply mo_not;exact rfl;exact gY))
    rw [hg]
    repeat (first | refine wneqF ?_ | (refine wR ?_;try simp only [oS]) | refine wo_nil ?_ | refine wM ?_ | refine wA ?_ | refine wK ?_ | refine wJ ?_ | refine wadd ?_ | refine wF ?_ | refine we_skip ?_)
    rw [hLL]
    refine at_round (I:=gdrInv bk zr.length x (mapC .u64 mb zm::arr bk 0 [.map (some mb),.bool false,.slice (some ⟨lb,lo,none⟩) zr.length vc,.bool false]::vec 2 (.slice (some ⟨lb,lo,none⟩) zr.length vc) (zr.map bkE).flatten::L)) (R:=fun j=>zr.length-j<zr.length-i) (i+1) (by show zr.length-(i+1)<zr.length-i;omega) (by show i+1≤zr.length;omega) ⟨rfl,rfl,rfl,trivial⟩ .refl rfl
  ·obtain rfl:i=zr.length:=by omega
   repeat (first | refine wlssF ?_ | refine we_seq ?_ | (refine wR ?_;try simp only [oS]) | refine wo_nil ?_ | refine wM ?_ | refine wA ?_ | refine wN ?_ | refine wD ?_ | refine wL ?_ | refine wE ?_ | refine wF ?_ | refine we_ret ?_ | refine we_exit ?_)
   (first | refine or1 Try.func20 Try.results20 hQ rfl ?_ | refine on1 Try.func20 Try.results20 hQ rfl ?_)
   exact ⟨rfl,rfl,rfl⟩
 ·obtain ⟨q,hq,hq2⟩:=h.m _ hmem
  simp only at hq
  subst hq
  have hrem:(((2*(q+1):Nat):Int)).tmod 2=0:=by
   rw [show (((2*(q+1):Nat):Int)).tmod 2=((2*(q+1)%2:Nat):Int) from rfl,show 2*(q+1)%2=0 by omega];rfl
  repeat (first | (apply wo_po;apply mo_bin;exact rfl;exact rfl;exact bin_rem (by decide) hrem;exact rfl) | (apply wo_po;apply mo_entry (ki:=.u64) (y:=(((2*(q+1):Nat):Int),v));exact rfl;exact .here;exact trivial) | refine weqlF ?_ | refine wneqF ?_ | refine we_seq ?_ | (refine wR ?_;try simp only [oS]) | refine wo_nil ?_ | refine wM ?_ | refine wA ?_ | refine wJ ?_ | (apply wo_po;apply mo_extract;exact rfl;exact rfl;exact gY) | refine wT ?_ | refine wF ?_ | refine we_skip ?_ | refine we_block ?_)
  refine at_round (I:=gdmInv bk mb r zm x (arr bk 0 [.map (some mb),.bool false,rv,.bool false]::vec 2 rv (zr.map bkE).flatten::L)) (R:=fun j=>j.1<n) (n',some (((2*(q+1):Nat):Int),v)) hlt trivial ⟨rfl,rfl,rfl,trivial⟩ .refl rfl
end
end
section
abbrev SwZ:=List (Int × Value) × Bool × List (Nat × Nat) × Bool × Bool
structure SqRo (Ro:HProp) (t1 t2 t3 t4 r n k bk:Nat):Prop where
 h1:Rd [Ro] t1 0 (.int .i64 (k:Nat))
 h2:Rd [Ro] t2 0 (.pointer (some ⟨r,0,none⟩))
 h3:Rd [Ro] t3 0 (.int .i64 (n:Nat))
 h4:Rd [Ro] t4 0 (.pointer (some ⟨bk,0,none⟩))
 hk:k≤6
section
variable {mb bk qb r n:Nat}
end
end
section
theorem sumN_leW {l:List Nat} {c:Nat} (h:∀ a∈l,a≤c):sumN l≤c*l.length:=by
 induction l with
 | nil=>simp [sumN]
 | cons a l ih =>
  have h1:=ih fun b hb=>h b (by simp [hb])
  have h2:=h a (by simp)
  simp only [sumN,List.foldr_cons,List.length_cons,Nat.mul_add] at h1 ⊢;omega
def wl:Nat→List Nat→List (Int × Value)
 | _,[]=>[]
 | o,x::xs=>(((2*o:Nat):Int),num x)::wl (o+1) xs
theorem wl_put:∀ (xs:List Nat) (o x:Nat),mPut (wl o xs) ((2*(o+xs.length):Nat):Int) (num x)=wl o (xs++[x])
 | [],o,x=>rfl
 | y::xs,o,x=>by
  unfold wl mPut
  rw [if_neg (by simp only [List.length_cons];omega),List.length_cons,show o+(xs.length+1)=(o+1)+xs.length by omega,wl_put xs (o+1) x];rfl
theorem wl_mem:∀ (xs:List Nat) (o:Nat) (y:Int × Value),y∈wl o xs→∃ q,q<xs.length∧y.1=((2*(o+q):Nat):Int)
 | [],o,y,h=>by cases h
 | x::xs,o,y,h=>by
  unfold wl at h
  rcases List.mem_cons.1 h with rfl | h
  ·exact ⟨0,by simp,rfl⟩
  ·obtain ⟨q,h1,h2⟩:=wl_mem xs (o+1) y h
   exact ⟨q+1,by simp;omega,by rw [h2,show o+1+q=o+(q+1) by omega]⟩
structure sqJ (m:Nat) (xs:List Nat) (z:SwZ) (πs:List Nat):Prop where
 w:z.1=wl 1 xs.tail
 t:z.2.1=false
 b:z.2.2.2.1=false
 q:z.2.2.2.2=true
 len:z.2.2.1.length≤m
 x0:xs[0]?=some 0
 xb:∀ x∈xs,x≤1000
 r:∀ y∈z.2.2.1,∃ j,xs[j]?=some y.2∧y.1=2*j
 p:∀ p∈πs,p≤2*(xs.length-1)
section
variable {t8 t5 t10 mb bk qb r n:Nat} {ts:List Nat}
end
end
section
structure SfP where
 bk:Nat
 mb:Nat
 wr:List (Int × Value)
 tw:Bool
 rd:List (Nat × Nat)
 bad:Bool
def sfSkip (l:List (Option Nat)):List (Option Nat):=l.dropWhile (·.isNone)
theorem sfSkip_sub:∀ (l:List (Option Nat)) x,x∈sfSkip l→x∈l:=fun l x h=>(List.dropWhile_sublist _).subset h
theorem sfSkip_len:∀ (l:List (Option Nat)),(sfSkip l).length≤l.length:=fun l=>(List.dropWhile_sublist _).length_le
def sfD (n:Nat):Slf where
 n:=n
 W:=fun x j=>x*100+j
 ζ:=Unit
 π:=SfP
 onW:=fun x v p _=>((),{ p with wr:=mPut p.wr (v:Nat) (num x),tw:=p.tw||(mGet p.wr (v:Nat)).isSome })
 onR:=fun acc v p _=>((),{ p with rd:=p.rd++[(v,(wholeF acc).1)],bad:=p.bad||!(wholeF acc).2 })
 skip:=sfSkip
 sub:=sfSkip_sub
 len:=sfSkip_len
theorem mGet_not:∀ {l:List (Int × Value)} {k:Int},(∀ e∈l,e.1≠k)→mGet l k=none∧∀ v,mPut l k v=l++[(k,v)]
 | [],k,_=>⟨rfl,fun v=>rfl⟩
 | e::l,k,h=>by
  have h1:=h e (by simp)
  obtain ⟨h2,h3⟩:=mGet_not (l:=l) (k:=k) fun e he=>h e (by simp [he])
  exact ⟨by unfold mGet;rw [if_neg fun h=>h1 h.symm];exact h2,fun v=>by unfold mPut;rw [if_neg fun h=>h1 h.symm,h3 v];rfl⟩
theorem flat_set {α:Type}:∀ {l:List (List α)} {k:Nat} {a:List α} {e:α},l[k]?=some a→(l.set k (a++[e])).flatten.Perm (l.flatten++[e])
 | [],_,_,_,h=>by simp at h
 | b::l,0,a,e,h=>by
  simp at h;subst h
  simp only [List.set_cons_zero,List.flatten_cons,List.append_assoc]
  exact (List.perm_append_comm).append_left b
 | b::l,k+1,a,e,h=>by
  simp only [List.set_cons_succ,List.flatten_cons,List.append_assoc]
  exact (flat_set (l:=l) (by simpa using h)).append_left b
theorem wholeF_filled2 {n x:Nat} (h1:1≤n) (h2:n≤16) (hx:x≤100000):wholeF (filledN n x)=(x,true):=by
 have hd:(filledN n x).headD 0=x*100:=by
  obtain ⟨m,rfl⟩:∃ m,n=m+1:=⟨n-1,by omega⟩
  unfold filledN
  rw [List.range_succ_eq_map];rfl
 have hq:x*100/100=x:=by omega
 have hb:wholeB (filledN n x)=true:=by
  unfold wholeB
  rw [hd,hq]
  refine List.all_eq_true.2 fun i hi=>?_
  have hi:i<n:=by have:=List.mem_range.1 hi;rwa [filledN_len] at this
  have:(filledN n x)[i]?=some (x*100+i):=by simp [filledN,hi]
  rw [List.getD_eq_getElem?_getD,this]
  simp only [Option.getD_some,beq_iff_eq]
  omega
 unfold wholeF
 rw [if_pos hb,hd,hq]
structure SfJ (m:Nat) (xs:List Nat) (z:Unit) (ps:List SfP):Prop where
 ok:∀ p∈ps,p.tw=false∧p.bad=false
 w:((ps.map SfP.wr).flatten).Perm (wl 1 xs.tail)
 x0:xs[0]?=some 0
 xb:∀ x∈xs,x≤100000
 r:∀ p∈ps,∀ y∈p.rd,∃ j,xs[j]?=some y.2∧y.1=2*j
 len:sumN (ps.map fun p=>p.rd.length)≤m
theorem sf_step {n:Nat} (h1:1≤n) (h2:n≤16) {m:Nat} (hm:m<1000000000) {s:SlfS Unit} {qs:List (SlfQ SfP)} (I:SlfI (sfD n) (fun x=>x≤100000) SfJ m s qs) {k:Nat} {q:SlfQ SfP} (hq:qs[k]?=some q) {mk:Int × Int} {f:SlfS Unit→SlfS Unit × SlfQ SfP} (hp:slfPlan (sfD n) q=some (mk,f)) :
  SlfI (sfD n) (fun x=>x≤100000) SfJ (m+1) (f s).1 (qs.set k (f s).2)∧sumN ((qs.set k (f s).2).map (slfφ n))+1≤sumN (qs.map (slfφ n)):=by
 refine slf_step (D:=sfD n) hm (fun xs z ps h=>{ h with len:=Nat.le_succ_of_le h.len }) ?_ ?_ I hq hp
 ·rintro xs z (ps:List SfP) k (p:SfP) x h hk lo hi hx
  obtain ⟨e1,e2,e3,e4,e5,e6⟩:=h
  have hk2:ps[k]?=some p:=hk
  clear hk
  obtain ⟨y,ys,rfl⟩:∃ y ys,xs=y::ys:=by
   cases xs with
   | nil=>simp at lo
   | cons y ys=>exact ⟨y,ys,rfl⟩
  have hl:(y::ys).length=1+ys.length:=by rw [List.length_cons];omega
  have hpm:p∈ps:=List.mem_of_getElem? hk2
  have hno:∀ l:List (Int × Value),(∀ e∈l,e∈wl 1 ys)→∀ e∈l,e.1≠((2*(y::ys).length:Nat):Int):=fun l h e he hne=>by
   obtain ⟨q,h1,h2⟩:=wl_mem ys 1 e (h e he)
   rw [hl] at hne
   omega
  have hpw:∀ e∈p.wr,e∈wl 1 ys:=fun e he=>e2.subset (List.mem_flatten.2 ⟨p.wr,List.mem_map_of_mem hpm,he⟩)
  obtain ⟨g1,g2⟩:=mGet_not (hno p.wr hpw)
  obtain ⟨g3,g4⟩:=mGet_not (hno (wl 1 ys) fun e he=>he)
  have hwl:wl 1 (ys++[x])=wl 1 ys++[(((2*(y::ys).length:Nat):Int),num x)]:=by
   rw [← wl_put ys 1 x,← g4,hl]
  have hp':((sfD n).onW x (2*(y::ys).length) p z).2={ p with wr:=p.wr++[(((2*(y::ys).length:Nat):Int),num x)],tw:=p.tw }:=by
   show ({ p with wr:=mPut p.wr _ _,tw:=p.tw||(mGet p.wr _).isSome }:SfP)=_
   rw [g2,g1]
   simp
  rw [hp']
  refine ⟨fun w hw=>?_,?_,?_,fun w hw=>?_,fun w hw v hv=>?_,?_⟩
  ·rcases List.mem_or_eq_of_mem_set hw with hw | rfl
   ·exact e1 w hw
   ·exact e1 p hpm
  ·show ((List.set (α:=SfP) ps k _).map SfP.wr).flatten.Perm (wl 1 (ys++[x]))
   rw [List.map_set]
   show ((ps.map SfP.wr).set k (p.wr++[_])).flatten.Perm (wl 1 (ys++[x]))
   rw [hwl]
   exact (flat_set (by rw [List.getElem?_map,hk2];rfl)).trans (e2.append_right _)
  ·exact e3
  ·rcases List.mem_append.1 hw with hw | hw
   ·exact e4 w hw
   ·cases List.mem_singleton.1 hw;exact hx
  ·have hold:∀ w∈ps,∀ v∈w.rd,∃ j,(y::ys++[x])[j]?=some v.2∧v.1=2*j:=fun w hw v hv=>by
    obtain ⟨j,h5,h6⟩:=e5 w hw v hv
    exact ⟨j,by rw [List.getElem?_append_left (List.getElem?_eq_some_iff.1 h5).1];exact h5,h6⟩
   rcases List.mem_or_eq_of_mem_set hw with hw | rfl
   ·exact hold w hw v hv
   ·exact hold p hpm v hv
  ·have h7:=sum_set (φ:=fun p:SfP=>p.rd.length) (q':={ p with wr:=p.wr++[(((2*(y::ys).length:Nat):Int),num x)],tw:=p.tw }) hk2
   show sumN ((List.set (α:=SfP) ps k _).map fun p=>p.rd.length)≤m+1
   simp only at h7
   omega
 ·rintro xs z (ps:List SfP) k (p:SfP) x h hk lo hi hx
  obtain ⟨e1,e2,e3,e4,e5,e6⟩:=h
  have hk2:ps[k]?=some p:=hk
  clear hk
  have hpm:p∈ps:=List.mem_of_getElem? hk2
  have hxm:x∈xs:=by rw [List.getLast?_eq_some_iff] at hx;obtain ⟨l,rfl⟩:=hx;simp
  have hw:wholeF ((sfD n).words x)=(x,true):=wholeF_filled2 h1 h2 (e4 x hxm)
  have hp':((sfD n).onR ((sfD n).words x) (2*(xs.length-1)) p z).2={ p with rd:=p.rd++[(2*(xs.length-1),x)],bad:=p.bad }:=by
   show ({ p with rd:=p.rd++[(_,(wholeF ((sfD n).words x)).1)],bad:=p.bad||!(wholeF ((sfD n).words x)).2 }:SfP)=_
   rw [hw]
   simp
  rw [hp']
  refine ⟨fun w hw=>?_,?_,e3,e4,fun w hw v hv=>?_,?_⟩
  ·rcases List.mem_or_eq_of_mem_set hw with hw | rfl
   ·exact e1 w hw
   ·exact e1 p hpm
  ·show ((List.set (α:=SfP) ps k _).map SfP.wr).flatten.Perm _
   rw [List.map_set]
   show ((ps.map SfP.wr).set k p.wr).flatten.Perm _
   have:(ps.map SfP.wr).set k p.wr=ps.map SfP.wr:=by
    apply List.ext_getElem?
    intro i
    rw [List.getElem?_set]
    split
    ·rename_i h;subst h
     have h8:(ps.map SfP.wr)[k]?=some p.wr:=by rw [List.getElem?_map,hk2];rfl
     rw [h8,if_pos (List.getElem?_eq_some_iff.1 h8).1]
    ·rfl
   rw [this];exact e2
  ·rcases List.mem_or_eq_of_mem_set hw with hw | rfl
   ·exact e5 w hw v hv
   ·rcases List.mem_append.1 hv with hv | hv
    ·exact e5 p hpm v hv
    ·cases List.mem_singleton.1 hv
     exact ⟨xs.length-1,by rw [← List.getLast?_eq_getElem?];exact hx,rfl⟩
  ·have h7:=sum_set (φ:=fun p:SfP=>p.rd.length) (q':={ p with rd:=p.rd++[(2*(xs.length-1),x)],bad:=p.bad }) hk2
   show sumN ((List.set (α:=SfP) ps k _).map fun p=>p.rd.length)≤m+1
   simp only [List.length_append,List.length_singleton] at h7
   omega
theorem sf_keep {n:Nat} {q:SlfQ SfP} {mk:Int × Int} {f:SlfS Unit→SlfS Unit × SlfQ SfP} (hp:slfPlan (sfD n) q=some (mk,f)) (s:SlfS Unit):(f s).2.p.bk=q.p.bk∧(f s).2.p.mb=q.p.mb:=by
 obtain ⟨ops,st,p⟩:=q
 unfold slfPlan at hp
 cases ops with
 | nil=>cases hp
 | cons o rest =>
  cases o <;> cases st <;> simp only at hp <;> (try (split at hp)) <;> (try (cases hp;done)) <;> (obtain ⟨_,rfl⟩:=Prod.mk.inj (Option.some.inj hp)) <;> dsimp only <;> (repeat' split) <;> exact ⟨rfl,rfl⟩
theorem mGet_mem:∀ {l:List (Int × Value)} {k:Int} {v:Value},(l.map (·.1)).Nodup→(k,v)∈l→mGet l k=some v
 | [],_,_,_,h=>by simp at h
 | e::l,k,v,hn,h=>by
  rw [List.map_cons,List.nodup_cons] at hn
  unfold mGet
  rcases List.mem_cons.1 h with rfl | h
  ·rw [if_pos rfl]
  ·have:k≠e.1:=fun h2=>hn.1 (by rw [← h2];exact List.mem_map_of_mem (f:=(·.1)) h)
   rw [if_neg this]
   exact mGet_mem hn.2 h
theorem wl_nodup:∀ (xs:List Nat) (o:Nat),((wl o xs).map (·.1)).Nodup
 | [],_=>by simp [wl]
 | x::xs,o=>by
  unfold wl
  rw [List.map_cons,List.nodup_cons]
  refine ⟨fun h=>?_,wl_nodup xs (o+1)⟩
  obtain ⟨e,he,h2⟩:=List.mem_map.1 h
  obtain ⟨q,_,h3⟩:=wl_mem xs (o+1) e he
  rw [h3] at h2
  simp only at h2
  omega
theorem wl_len:∀ (xs:List Nat) (o:Nat),(wl o xs).length=xs.length
 | [],_=>rfl
 | x::xs,o=>by unfold wl;rw [List.length_cons,wl_len xs (o+1)];rfl
theorem wl_in:∀ (xs:List Nat) (o j x:Nat),xs[j]?=some x→(((2*(o+j):Nat):Int),num x)∈wl o xs
 | [],_,_,_,h=>by simp at h
 | y::xs,o,0,x,h=>by simp at h;subst h;unfold wl;simp
 | y::xs,o,j+1,x,h=>by
  unfold wl
  refine List.mem_cons_of_mem _ ?_
  rw [show o+(j+1)=(o+1)+j by omega]
  exact wl_in xs (o+1) j x (by simpa using h)
end
end Go.Proofs.Ytodgemainhokjaa
namespace Go.Proofs.Ytodgemainhokjaa
open Go Go.PB
attribute [local irreducible] Mo Bin Eql Tr Wo Ap Wle
attribute [local instance] Pass.of_no
section
section
variable {B:Hand} [Lets B] {x:B.X} {L F:List HProp}
theorem writes2_tr {mb bk v y:Nat} {zm:List (Int × Value)} {rv:Value} {tw bd:Bool} :
  Tr Try.prog B 15 [.pointer (some ⟨bk,0,none⟩),.int .u64 (v:Nat),.int .u64 (y:Nat)] (mapC .u64 mb zm::arr bk 0 [.map (some mb),.bool tw,rv,.bool bd]::L) x
   fun w L' x'=>L'=mapC .u64 mb (mPut zm (v:Nat) (num y))::arr bk 0 [.map (some mb),.bool (tw||(mGet zm (v:Nat)).isSome),rv,.bool bd]::L∧x'=x:=by
 cases tw with
 | false=>exact writes_tr
 | true =>
  refine tr_of_body Try.func15 rfl Try.ntmps15 (by simp) fun um Q _ hQ=>?_
  simp only [argE,Nat.zero_add,Nat.reduceAdd]
  obtain ⟨g,hg⟩:∃ g,(mGet zm (v:Nat)).isSome=g:=⟨_,rfl⟩
  repeat (first | (apply wo_po;apply mo_lookup2 (ki:=.u64) (k:=((v:Nat):Int)) (l:=zm);exact rfl;exact rfl;exact .here;exact trivial) | refine we_seq ?_ | (refine wR ?_;try simp only [oS]) | refine wo_nil ?_ | refine wM ?_ | refine wA ?_ | (apply wo_no;exact rfl) | refine wK ?_ | refine wN ?_ | refine wD ?_ | (apply wo_po;apply mo_extract;exact rfl;exact rfl;exact gY) | refine wL ?_)
  rw [hg]
  repeat (first | refine wS ?_ | (apply wo_pm;apply mo_mapUpdate (ki:=.u64) (k:=((v:Nat):Int)) (l:=zm);exact rfl;exact rfl;exact rfl;exact .here;exact trivial) | (refine wR ?_;try simp only [oS]) | refine wo_nil ?_ | refine wM ?_ | refine wN ?_ | refine wD ?_ | refine wL ?_)
  (first | refine or0 Try.func15 Try.results15 hQ ?_ | refine on0 Try.func15 Try.results15 hQ ?_)
  exact ⟨rfl,rfl⟩
theorem reads2_tr {mb bk v n c:Nat} {a:Option Addr} {l:List Nat} {zr:List (Nat × Nat)} {rv:Value} {tw bad:Bool} (hr:∀ {d1 d2:HProp},RdsO (d1::d2::L) a n (l.map num)) (hn:n≤16) (h1:1≤n) (hb:∀ w∈l,w<18446744073709551616) (hz:zr.length≤100000) :
  Tr Try.prog B 17 [.pointer (some ⟨bk,0,none⟩),.slice a n c,.int .u64 (v:Nat)] (arr bk 0 [.map (some mb),.bool tw,rv,.bool bad]::vec 2 rv (zr.map bkE).flatten::L) x
   fun w L' x'=>∃ rv',L'=vec 2 rv' ((zr++[(v,(wholeF l).1)]).map bkE).flatten::arr bk 0 [.map (some mb),.bool tw,rv',.bool (bad||!(wholeF l).2)]::L∧x'=x:=by
 cases bad with
 | false=>exact reads_tr hr hn h1 hb hz
 | true =>
  refine Tr.post (R:=fun w L' x'=>x'=x∧∃ rv',∀ h,Star L' h→Star (vec 2 rv' ((zr++[(v,(wholeF l).1)]).map bkE).flatten::arr bk 0 [.map (some mb),.bool tw,rv',.bool true]::L) h) ?_ (by rintro v L' x' ⟨rfl,rv',h2⟩;exact ⟨_,⟨rv',rfl,rfl⟩,h2⟩)
  refine tr_of_body Try.func17 rfl Try.ntmps17 (by simp) fun um Q _ hQ=>?_
  simp only [argE,Nat.zero_add,Nat.reduceAdd]
  repeat (first | refine we_seq ?_ | (refine wR ?_;try simp only [oS]) | refine wM ?_)
  refine wo_call (.cons rfl .nil) trivial (whole_tr hr hn h1 hb) ?_
  rintro v1 L1 x1 ⟨rfl,rfl,rfl⟩
  obtain ⟨y1,hy1⟩:∃ y,(wholeF l).1=y:=⟨_,rfl⟩
  obtain ⟨y2,hy2⟩:∃ y,(wholeF l).2=y:=⟨_,rfl⟩
  rw [hy1,hy2]
  refine wo_pure (of_has (.there .here) (vec_shape (by omega))) ?_
  rintro ⟨va,vn,vc,rfl,hvn,_⟩
  have hvn':vn=zr.length:=by rw [flat_len (k:=2) (fun _=>rfl)] at hvn;omega
  repeat (first | refine wS ?_ | (apply wo_po;apply mo_buildArr (pv:=[(0,_),(1,_)]);exact rfl;exact .cons rfl (.cons rfl .nil);exact rfl;exact trivial) | refine we_seq ?_ | (refine wR ?_;try simp only [oS]) | refine wo_nil ?_ | refine wM ?_ | refine wA ?_ | (apply wo_no;exact rfl) | refine wK ?_ | refine wN ?_ | refine wD ?_ | (apply wo_po;apply mo_extract;exact rfl;exact rfl;exact gY) | refine wL ?_)
  repeat (first | (apply wo_mo;apply mo_buildSlice (sz:=2) (vs:=[.agg #[.int .u64 (v:Nat),.int .u64 (y1:Nat)]]);exact rfl;exact .cons rfl .nil;exact rfl;(intro v hv;cases (List.mem_singleton.1 hv);exact rfl);omega;exact trivial))
  rintro v' L' ⟨nb,rfl,rfl⟩
  repeat (first | (apply wo_mo;apply mo_append (sz:=2) (new:=[.int .u64 (v:Nat),.int .u64 (y1:Nat)]);exact rfl;exact rfl;exact rfl;exact rfl;exact (.there (.there .here));exact rfl;exact .inr ⟨_,_,rfl,Rds.all .here⟩;(intro v hv;simp at hv;rcases hv with rfl | rfl <;> rfl);(simp only [sliceLen];omega);exact trivial))
  rintro v' L' rfl
  refine wo_pure (of_has .here (vec_shape (by omega))) ?_
  rintro ⟨ua,un,uc,rfl,_⟩
  repeat (first | refine wS ?_ | refine wo_nil ?_ | refine wN ?_ | refine wD ?_)
  (first | refine or0 Try.func17 Try.results17 hQ ?_ | refine on0 Try.func17 Try.results17 hQ ?_)
  rw [hy1]
  refine ⟨rfl,.slice ua un uc,fun h st=>?_⟩
  have e:((zr++[(v,y1)]).map bkE).flatten=(zr.map bkE).flatten++[.int .u64 (v:Nat),.int .u64 (y1:Nat)]:=by simp [bkE]
  rw [e]
  exact Ent.star (.take .here (.take (.there .here) (.drop .refl))) st
end
def sfB (p:SfP):HProp:=fun h=>∃ rv:Value,all [mapC .u64 p.mb p.wr,arr p.bk 0 [.map (some p.mb),.bool p.tw,rv,.bool p.bad],vec 2 rv (p.rd.map bkE).flatten] h
theorem sf_up (q:SlfQ SfP) (h:Hp) (st:Star [all [sfB q.p]] h):all [sfB q.p] h:=star_open (M:=[_]) st
abbrev sfG (n:Nat):WGm:=slfG (sfD n) (fun q=>all [sfB q.p]) sf_up
def sfOps (k:Nat):Nat→Nat→List (Option Nat)
 | _,0=>[]
 | i,m+1=>some (1+1000*k+i)::none::none::none::sfOps k (i+1) m
theorem sfOps_skip (k i m:Nat):sfSkip (sfOps k i m)=sfOps k i m:=by
 cases m <;> rfl
theorem sfOps_skip1 (k i m:Nat):sfSkip (none::sfOps k i m)=sfOps k i m:=sfOps_skip k i m
theorem sfOps_skip2 (k i m:Nat):sfSkip (none::none::sfOps k i m)=sfOps k i m:=sfOps_skip k i m
structure SfRo (Ro:HProp) (t5 ib t8 t4 t10 pb bk r n k nt times:Nat):Prop where
 h1:Rd [Ro] t5 0 (.int .i64 (times:Nat))
 h2:Rd [Ro] ib 0 (.int .i64 (k:Nat))
 h3:Rd [Ro] t8 0 (.pointer (some ⟨r,0,none⟩))
 h4:Rd [Ro] t4 0 (.int .i64 (n:Nat))
 h5:Rd [Ro] t10 0 (.slice (some ⟨pb,0,none⟩) nt nt)
 h6:Rd [Ro] pb (0+k) (.pointer (some ⟨bk,0,none⟩))
 hC:Rd [Ro] r 1 (.int .i64 (n:Nat))
 hk:k<nt
 hn:nt≤7
 ht:times≤40
abbrev sfF (t5 ib t8 t4 t10:Nat):Value:=.func (.func 40) #[] #[.pointer (some ⟨t5,0,none⟩),.pointer (some ⟨ib,0,none⟩),.pointer (some ⟨t8,0,none⟩),.pointer (some ⟨t4,0,none⟩),.pointer (some ⟨t10,0,none⟩)]
section
variable {Ro:HProp} {F:List HProp} {t5 ib t8 t4 t10 pb bk mb r n k nt times wg:Nat}
def sfInv (n r wg t5 ib t8 t4 t10 k times bk mb:Nat) (Ro:HProp) (F:List HProp):PB.Inv (Nat × SfP × FrS (sfG n)) TX where
 e:=fun i=>[(0,.nilIface),(1,.pointer (some ⟨t5,0,none⟩)),(2,.pointer (some ⟨ib,0,none⟩)),(3,.pointer (some ⟨t8,0,none⟩)),(4,.pointer (some ⟨t4,0,none⟩)),(5,.pointer (some ⟨t10,0,none⟩)),(7,.int .i64 (i.1:Nat))]
 L:=fun i=>Ro::sfB i.2.1::F
 x:=fun i=>frX (sfG n) (sAddr r) (n+1) [] wg i.2.2
 ok:=fun i=>i.1≤times∧i.2.1.rd.length≤i.1∧i.2.1.bk=bk∧i.2.1.mb=mb∧i.2.2.q=(⟨sfOps k i.1 (times-i.1),.idle,i.2.1⟩:SlfQ SfP)
def sfMid (n r wg t5 ib t8 t4 t10 k times bk mb i bd:Nat) (rest:List (Option Nat)) (Ro:HProp) (F:List HProp):PB.Inv (SfP × FrS (sfG n)) TX where
 e:=fun z=>[(0,.nilIface),(1,.pointer (some ⟨t5,0,none⟩)),(2,.pointer (some ⟨ib,0,none⟩)),(3,.pointer (some ⟨t8,0,none⟩)),(4,.pointer (some ⟨t4,0,none⟩)),(5,.pointer (some ⟨t10,0,none⟩)),(7,.int .i64 (i:Nat))]
 L:=fun z=>Ro::sfB z.1::F
 x:=fun z=>frX (sfG n) (sAddr r) (n+1) [] wg z.2
 ok:=fun z=>z.1.rd.length≤bd∧z.1.bk=bk∧z.1.mb=mb∧z.2.q=(⟨rest,.idle,z.1⟩:SlfQ SfP)
theorem sfB_open {zm:List (Int × Value)} {zr:List (Nat × Nat)} {tw bad:Bool} {M:List HProp} {h:Hp} (st:Star (sfB ⟨bk,mb,zm,tw,zr,bad⟩::M) h):Star ((fun h=>∃ rv:Value,all [mapC .u64 mb zm,arr bk 0 [.map (some mb),.bool tw,rv,.bool bad],vec 2 rv (zr.map bkE).flatten] h)::M) h:=st
theorem sfB_shut {zm:List (Int × Value)} {zr:List (Nat × Nat)} {tw bad:Bool} {rv:Value} {M:List HProp} {h:Hp} (st:Star (mapC .u64 mb zm::arr bk 0 [.map (some mb),.bool tw,rv,.bool bad]::vec 2 rv (zr.map bkE).flatten::M) h):Star (sfB ⟨bk,mb,zm,tw,zr,bad⟩::M) h :=
 star_map (star_shut (M:=[_,_,_]) st) (fun h z=>⟨rv,z⟩) fun _ z=>z
set_option maxHeartbeats 4000000 in
theorem sft_tr {p0:SfP} {m0:Nat} (O:SfRo Ro t5 ib t8 t4 t10 pb bk r n k nt times) (h1:1≤n) (h2:n≤16) (hp0:p0.rd=[]) (hbk:p0.bk=bk) (hmb:p0.mb=mb) :
  Tr Try.prog fH 40 [.nilIface,.pointer (some ⟨t5,0,none⟩),.pointer (some ⟨ib,0,none⟩),.pointer (some ⟨t8,0,none⟩),.pointer (some ⟨t4,0,none⟩),.pointer (some ⟨t10,0,none⟩)] (Ro::sfB p0::F) (frX (sfG n) (sAddr r) (n+1) [] wg ⟨(⟨sfOps k 0 times,.idle,p0⟩:SlfQ SfP),m0⟩) fun v L' x' =>
   ∃ p s,s.q=(⟨[],.idle,p⟩:SlfQ SfP)∧v=.tuple #[]∧L'=Ro::sfB p::F∧x'=frX (sfG n) (sAddr r) (n+1) [] wg s:=by
 have hkn:=O.hk
 have hnt:=O.hn
 have htm:=O.ht
 refine tr_of_body Try.func40 rfl Try.ntmps40 (by simp) fun um Q _ hQ=>?_
 simp only [argE,Nat.zero_add,Nat.reduceAdd]
 have u1:∀ {M:List HProp} {b o:Nat} {v:Value},Rd [Ro] b o v→Rd (Ro::M) b o v:=fun {M b o v} hr=>Rd.of .here hr
 repeat (first | refine we_seq ?_ | (refine wR ?_;try simp only [oS]) | refine wo_nil ?_ | refine wA ?_ | refine we_block ?_)
 refine we_loopN (sfInv n r wg t5 ib t8 t4 t10 k times bk mb Ro F) (fun i=>times-i.1) (0,p0,⟨(⟨sfOps k 0 times,.idle,p0⟩:SlfQ SfP),m0⟩) ⟨Nat.zero_le _,by rw [hp0];exact Nat.le_refl _,hbk,hmb,rfl⟩ ⟨rfl,rfl,rfl,rfl,rfl,rfl,rfl,trivial⟩ .refl rfl ?_
 clear hp0 hbk hmb m0 p0
 rintro ⟨i,p,s⟩ ⟨hi,hpl,hbk,hmb,hs⟩
 dsimp only at hi hpl hbk hmb hs
 simp only [sfInv]
 by_cases hlt:i<times
 ·obtain ⟨d,hd⟩:∃ d,times-i=d+1:=⟨times-i-1,by omega⟩
  have hd2:times-(i+1)=d:=by omega
  rw [hd] at hs
  obtain ⟨rest,hrest⟩:∃ rest,sfOps k (i+1) d=rest:=⟨_,rfl⟩
  have hs':s.q=(⟨some (1+1000*k+i)::none::none::none::rest,.idle,p⟩:SlfQ SfP):=by rw [hs,← hrest];rfl
  have m1:IntKind.i64.wrap (1000*(k:Int))=((1000*k:Nat):Int):=(wrap_i64 (by omega) (by omega)).trans (by omega)
  have m2:IntKind.i64.wrap (1+((1000*k:Nat):Int))=((1+1000*k:Nat):Int):=(wrap_i64 (by omega) (by omega)).trans (by omega)
  have m3:IntKind.i64.wrap (((1+1000*k:Nat):Int)+(i:Int))=((1+1000*k+i:Nat):Int):=(wrap_i64 (by omega) (by omega)).trans (by omega)
  have m4:IntKind.u64.wrap ((1+1000*k+i:Nat):Int)=((1+1000*k+i:Nat):Int):=wrap_u64 (by omega) (by omega)
  have m5:IntKind.i64.wrap (((i:Nat):Int)+1)=((i+1:Nat):Int):=(wrap_i64 (by omega) (by omega)).trans (by omega)
  obtain ⟨y,hy⟩:∃ y,1+1000*k+i=y:=⟨_,rfl⟩
  rw [hy] at m3 m4 hs'
  repeat (first | (apply wo_po;apply mo_load;exact rfl;(first | exact u1 O.h1 | exact u1 O.h2);exact trivial) | (apply wo_po;apply mo_bin;exact rfl;exact rfl;apply bin_mul;exact m1;exact trivial) | (apply wo_po;apply mo_bin;exact rfl;exact rfl;apply bin_add;(first | exact m2 | exact m3);exact trivial) | (apply wo_po;apply mo_conv;exact rfl;exact m4;exact trivial) | refine wlssT ?_ | refine we_seq ?_ | (refine wR ?_;try simp only [oS]) | refine wo_nil ?_ | refine wM ?_ | refine wA ?_ | refine wT ?_ | refine we_skip ?_ | refine we_block ?_)
  refine we_draw (List.range' 0 11) (by kernel_rfl) ?_
  repeat (first | (apply ap_read;exact rfl;exact rfl;exact trivial;apply mo_load;exact rfl;(first | exact u1 O.h3 | exact u1 O.h4)) | refine aM ?_)
  refine ap_callR rfl rfl rfl trivial rfl rfl (.cons rfl (.cons rfl .nil)) (filled_tr (v:=y) h2 (by omega)) ?_ ?_
  ·rintro v L' x' ⟨rfl,rfl⟩ p hp
   replace hp:=(List.mem_filter.1 hp).1
   simp only [List.mem_cons,List.not_mem_nil,or_false] at hp
   rcases hp with rfl | rfl | rfl | rfl <;> first | exact .inl rfl | exact .inr ⟨_,rfl,trivial,mo_load rfl (.there (u1 O.h3))⟩ | exact .inr ⟨_,rfl,trivial,mo_load rfl (.there (u1 O.h4))⟩
  rintro fv L1 x1 ⟨rfl,rfl⟩
  refine ap_know (of_has .here (vec_shape (by omega))) ?_
  rintro ⟨fa,fn,fc,rfl,hfn,_,hfz,hfy⟩
  obtain rfl:n=fn:=by rw [List.length_map,filledN_len] at hfn;omega
  skip
  refine ap_callv rfl rfl rfl rfl trivial rfl rfl (.cons rfl (.cons rfl (.cons rfl .nil))) (write_tr (A:=slfAcc (sfD n) (fun q=>all [sfB q.p]) sf_up r wg Ro) (slf_at h1 h2 O.hC) (ws:=(sfD n).words y) (show (filledN n y).length=n from filledN_len) (filledN_lt h2 (show y≤1000000 by omega)) (slf_write hs') (.there .here) (rdsoV .here (show ((filledN n y).map num).length=n by rw [List.length_map,filledN_len]) hfz hfy)) ?_
  rintro v L' x' ⟨q,s',hq',rfl,rfl,rfl⟩
  repeat (first | refine aM ?_ | refine aA ?_ | (apply ap_pure;exact rfl;exact rfl;exact gY;intro L;apply mo_extract;exact rfl;exact rfl) | refine ap_end ?_)
  have u3:∀ {a b c:HProp} {M:List HProp} {b1 o:Nat} {v:Value},Rd [Ro] b1 o v→Rd (a::b::c::Ro::M) b1 o v:=fun {a b c M b1 o v} hr=>.there (.there (.there (Rd.of .here hr)))
  obtain ⟨pbk,pmb,zm,tw,zr,bad⟩:=p
  simp only at hpl hbk hmb
  obtain rfl:bk=pbk:=hbk.symm
  obtain rfl:mb=pmb:=hmb.symm
  repeat (first | refine we_seq ?_ | (refine wR ?_;try simp only [oS]) | refine wo_nil ?_ | refine wM ?_ | (apply wo_po;apply mo_bin;exact rfl;exact rfl;exact bin_eql;exact gY))
  refine we_join (B:=fH) (I:=sfMid n r wg t5 ib t8 t4 t10 k times bk mb i i (none::none::none::rest) Ro F) ?_ ?_
  ·cases q with
   | none =>
    repeat (first | refine wF ?_ | refine we_skip ?_)
    refine at_mid (B:=fH) (I:=sfMid n r wg t5 ib t8 t4 t10 k times bk mb i i (none::none::none::rest) Ro F) (⟨bk,mb,zm,tw,zr,bad⟩,s') ⟨hpl,rfl,rfl,hq'⟩ ⟨rfl,rfl,rfl,rfl,rfl,rfl,rfl,trivial⟩ (.take .here (.take (.there .here) (.drop .refl))) rfl
   | some v =>
    obtain ⟨z,hq'⟩:=hq'
    refine we_star ((fun h=>∃ rv:Value,all [mapC .u64 mb zm,arr bk 0 [.map (some mb),.bool tw,rv,.bool bad],vec 2 rv (zr.map bkE).flatten] h)::Ro::F) (fun hp st=>Ent.star (.take (.there (.there .here)) (.take .here (.drop .refl))) st) ?_
    refine we_ex .here fun rv=>?_
    refine we_star (mapC .u64 mb zm::arr bk 0 [.map (some mb),.bool tw,rv,.bool bad]::vec 2 rv (zr.map bkE).flatten::Ro::F) (fun hp st=>star_open (M:=[_,_,_]) st) ?_
    repeat (first | (apply wo_po;apply mo_load;exact rfl;(first | exact u3 O.h5 | exact u3 O.h2 | exact u3 O.h6);exact trivial) | (apply wo_po;apply mo_index1;exact rfl;exact rfl;omega;exact trivial) | (refine wR ?_;try simp only [oS]) | refine wM ?_ | refine wT ?_)
    refine wo_call (.cons rfl (.cons rfl (.cons rfl .nil))) trivial writes2_tr ?_
    rintro w1 L1 x1 ⟨rfl,rfl⟩
    repeat (first | refine wo_nil ?_)
    refine at_midS (B:=fH) (I:=sfMid n r wg t5 ib t8 t4 t10 k times bk mb i i (none::none::none::rest) Ro F) (⟨bk,mb,mPut zm (v:Nat) (num y),tw||(mGet zm (v:Nat)).isSome,zr,bad⟩,s') ⟨hpl,rfl,rfl,hq'⟩ ⟨rfl,rfl,rfl,rfl,rfl,rfl,rfl,trivial⟩ (fun hp st=>star_swap (sfB_shut st)) rfl
  ·clear hs hs' hq' hpl zm tw zr bad s s'
   rintro ⟨⟨bk2,mb2,zm,tw,zr,bad⟩,s⟩ ⟨hpl,hbk,hmb,hs⟩
   dsimp only at hpl hbk hmb hs
   obtain rfl:bk=bk2:=hbk.symm
   obtain rfl:mb=mb2:=hmb.symm
   simp only [sfMid]
   repeat (first | (apply wo_po;apply mo_load;exact rfl;exact u1 O.h3;exact trivial) | refine we_seq ?_ | (refine wR ?_;try simp only [oS]) | refine wM ?_)
   refine wo_call (.cons rfl (.cons rfl (.cons rfl .nil))) trivial (wait_tr (A:=slfAcc (sfD n) (fun q=>all [sfB q.p]) sf_up r wg Ro) (slf_at h1 h2 O.hC) (k:=2) (by omega) (slf_wait (by rw [← hrest];exact sfOps_skip _ _ _) (by rw [← hrest];exact sfOps_skip1 _ _ _) (by rw [← hrest];exact sfOps_skip2 _ _ _) hs) .here) ?_
   rintro v1 L1 x1 ⟨q,s',rv,hq',hg,rfl,rfl,rfl⟩
   refine wo_pure (of_has (.there .here) (vec_shape (by omega))) ?_
   rintro ⟨wa,wn,wc,rfl,hwn,_,hwz,hwy⟩
   cases q with
   | none =>
    repeat (first | (apply wo_po;apply mo_bin;exact rfl;exact rfl;apply bin_add;exact m5;exact trivial) | refine we_seq ?_ | (refine wR ?_;try simp only [oS]) | refine wo_nil ?_ | refine wM ?_ | refine wA ?_ | (apply wo_po;apply mo_extract;exact rfl;exact rfl;exact gY) | (apply wo_po;apply mo_bin;exact rfl;exact rfl;exact bin_eql;exact gY) | refine wF ?_ | refine we_skip ?_)
    refine at_round (B:=fH) (I:=sfInv n r wg t5 ib t8 t4 t10 k times bk mb Ro F) (R:=fun z=>times-z.1<times-i) (i+1,⟨bk,mb,zm,tw,zr,bad⟩,s') (by show times-(i+1)<times-i;omega) ⟨by show i+1≤times;omega,by show zr.length≤i+1;omega,rfl,rfl,by show s'.q=(⟨sfOps k (i+1) (times-(i+1)),.idle,_⟩:SlfQ SfP);rw [hd2,hrest];exact hq'⟩ ⟨rfl,rfl,rfl,rfl,rfl,rfl,rfl,trivial⟩ (.take .here (.take (.there .here) (.drop .refl))) rfl
   | some y =>
    obtain ⟨z,hq'⟩:=hq'
    obtain ⟨g1,g2,g3⟩:=hg y rfl
    replace g1:y.1.length=n:=g1
    have hwn':n=wn:=by
     have:((rdW (some y)).map num).length=y.1.length:=by rw [List.length_map];rfl
     omega
    subst hwn'
    refine wo_star ((fun h=>∃ rv:Value,all [mapC .u64 mb zm,arr bk 0 [.map (some mb),.bool tw,rv,.bool bad],vec 2 rv (zr.map bkE).flatten] h)::Ro::vec 1 (.slice wa n wc) (y.1.map num)::F) (fun hp st=>Ent.star (.take (.there (.there .here)) (.take .here (.take .here .refl))) st) ?_
    refine wo_ex .here fun rv=>?_
    refine wo_star (arr bk 0 [.map (some mb),.bool tw,rv,.bool bad]::vec 2 rv (zr.map bkE).flatten::mapC .u64 mb zm::Ro::vec 1 (.slice wa n wc) (y.1.map num)::F) (fun hp st=>Ent.star (.take (.there .here) (.take (.there .here) (.take .here .refl))) (star_open (M:=[_,_,_]) st)) ?_
    repeat (first | (apply wo_po;apply mo_load;exact rfl;(first | exact u3 O.h5 | exact u3 O.h2 | exact u3 O.h6);exact trivial) | (apply wo_po;apply mo_index1;exact rfl;exact rfl;omega;exact trivial) | refine we_seq ?_ | (refine wR ?_;try simp only [oS]) | refine wo_nil ?_ | refine wM ?_ | refine wA ?_ | (apply wo_po;apply mo_extract;exact rfl;exact rfl;exact gY) | (apply wo_po;apply mo_bin;exact rfl;exact rfl;exact bin_eql;exact gY) | refine wT ?_)
    refine wo_call (.cons rfl (.cons rfl (.cons rfl .nil))) trivial (reads2_tr (l:=y.1) (v:=y.2) (fun {d1 d2}=>rdsoV (.there (.there (.there (.there .here)))) (by rw [List.length_map];exact g1) hwz hwy) h2 h1 g2 (by omega)) ?_
    rintro w1 L1 x1 ⟨rv2,rfl,rfl⟩
    repeat (first | (apply wo_po;apply mo_bin;exact rfl;exact rfl;apply bin_add;exact m5;exact trivial) | (refine wR ?_;try simp only [oS]) | refine wo_nil ?_ | refine wM ?_ | refine wA ?_)
    refine at_roundS (B:=fH) (I:=sfInv n r wg t5 ib t8 t4 t10 k times bk mb Ro F) (R:=fun z=>times-z.1<times-i) (i+1,⟨bk,mb,zm,tw,zr++[(y.2,(wholeF y.1).1)],bad||!(wholeF y.1).2⟩,s') (by show times-(i+1)<times-i;omega) ⟨by show i+1≤times;omega,by show (zr++[_]).length≤i+1;rw [List.length_append];show zr.length+1≤i+1;omega,rfl,rfl,by show s'.q=(⟨sfOps k (i+1) (times-(i+1)),.idle,_⟩:SlfQ SfP);rw [hd2,hrest];exact hq'⟩ ⟨rfl,rfl,rfl,rfl,rfl,rfl,rfl,trivial⟩ (fun hp st=>?_) rfl
    exact star_swap (sfB_shut (Ent.star (.take (.there (.there .here)) (.take (.there .here) (.take .here (.take .here (.drop .refl))))) st))
 ·obtain rfl:i=times:=by omega
  rw [Nat.sub_self] at hs
  repeat (first | (apply wo_po;apply mo_load;exact rfl;exact u1 O.h1;exact trivial) | refine wlssF ?_ | refine we_seq ?_ | (refine wR ?_;try simp only [oS]) | refine wo_nil ?_ | refine wM ?_ | refine wF ?_ | refine we_exit ?_)
  (first | refine or0 Try.func40 Try.results40 hQ ?_ | refine on0 Try.func40 Try.results40 hQ ?_)
  exact ⟨p,s,hs,rfl,rfl,rfl⟩
end
end
end Go.Proofs.Ytodgemainhokjaa
namespace Go.PB
open Go.Conc
section
theorem perm_filter {α:Type} {g:α→Nat} {y:α}:∀ {l:List α},(l.map g).Nodup→y∈l→(y::l.filter (fun e=>!(g e == g y))).Perm l
 | [],_,h=>by simp at h
 | a::l,hn,h=>by
  rw [List.map_cons,List.nodup_cons] at hn
  rcases List.mem_cons.1 h with rfl | h1
  ·have e:(y::l).filter (fun e=>!(g e == g y))=l:=by
    rw [List.filter_cons_of_neg (by simp)]
    refine List.filter_eq_self.2 fun z hz=>?_
    have:g z≠g y:=fun h2=>hn.1 (by rw [← h2];exact List.mem_map_of_mem hz)
    simpa using this
   rw [e]
  ·have hne:g a≠g y:=fun h2=>hn.1 (by rw [h2];exact List.mem_map_of_mem h1)
   rw [List.filter_cons_of_pos (by simpa using hne)]
   exact (List.Perm.swap a y _).trans ((perm_filter hn.2 h1).cons a)
def ranD (ki:IntKind) (b r:Nat) (l todo:List (Int × Value)) (cur:Option (Int × Value)):HProp:=fun h =>
 ∃ es clock,∃ seen:Array Nat,(EsOk ki es clock l∧(es.filter fun e=>!seen.contains e.born).map (fun e=>(e.key,e.val))=todo.map (fun y=>(Value.int ki y.1,y.2))∧∀ y,cur=some y→∃ e∈es,seen.back?=some e.born∧e.key=.int ki y.1∧e.val=y.2) ∧
  all [ob b (.map es.toArray clock),ob r (.mapIter (some b) clock seen clock)] h
section
variable {P:Program} {e:Env} {ty:TypeId} {L F:List HProp} {ki:IntKind} {b r:Nat} {l todo:List (Int × Value)} {cur:Option (Int × Value)}
theorem ranD_obj {h:Hp} (s:Star (ranD ki b r l todo cur::L) h):∃ es clock,∃ seen:Array Nat,(EsOk ki es clock l∧(es.filter fun e=>!seen.contains e.born).map (fun e=>(e.key,e.val))=todo.map (fun y=>(Value.int ki y.1,y.2))∧∀ y,cur=some y→∃ e∈es,seen.back?=some e.born∧e.key=.int ki y.1∧e.val=y.2) ∧
  Star (ob b (.map es.toArray clock)::ob r (.mapIter (some b) clock seen clock)::L) h:=by
 obtain ⟨h1,h2,s1,⟨es,clock,seen,hf,hz⟩,hL⟩:=s
 exact ⟨es,clock,seen,hf,star_open (M:=[_,_]) ⟨h1,h2,s1,hz,hL⟩⟩
theorem ranD_of {h:Hp} {es:List MapEntry} {clock:Nat} {seen:Array Nat} (hf:EsOk ki es clock l∧(es.filter fun e=>!seen.contains e.born).map (fun e=>(e.key,e.val))=todo.map (fun y=>(Value.int ki y.1,y.2))∧∀ y,cur=some y→∃ e∈es,seen.back?=some e.born∧e.key=.int ki y.1∧e.val=y.2)
  (s:Star (ob b (.map es.toArray clock)::ob r (.mapIter (some b) clock seen clock)::L) h):Star (ranD ki b r l todo cur::L) h :=
 star_map (star_shut (M:=[_,_]) s) (fun h z=>⟨es,clock,seen,hf,z⟩) fun _ z=>z
theorem ranD_map {h:Hp} (s:Star (ranD ki b r l todo cur::L) h):Star (mapC ki b l::L) h:=by
 obtain ⟨es,clock,seen,hf,s'⟩:=ranD_obj s
 exact mapC_of hf.1 (star_drop (star_swap s'))
theorem mo_rangeD {t key el:Nat} {o:Operand} [p:Und P t (.map key el)] (hm:ev e o=some (.map (some b))) (hh:Has L (mapC ki b l) F) :
  Mo P e (.range t o) ty L fun v' L'=>∃ r,v'=.pointer (some ⟨r,0,none⟩)∧L'=ranD ki b r l l none::F:=by
 intro M _ _ tt h Q X ag s q
 show wpS P M (Sem.bind (Instr.range t (evT tt o)) fun v=>pure (.value v)) h Q X
 rw [ag.ev hm]
 obtain ⟨es,clock,he,s'⟩:=mapC_obj (hh.star s)
 refine wpS_bind _ _ ?_
 unfold Instr.range
 refine wpS_underlying p.ok ?_
 refine ⟨_,(star_setObj (o':=.map #[] 0) s').1,?_⟩
 intro r hf
 have s2:=star_newObj (o:=.mapIter (some b) clock #[] clock) hf s'
 refine q _ _ _ _ (.inl rfl) ⟨r,rfl,rfl⟩ (ranD_of (es:=es) (clock:=clock) (seen:=#[]) ⟨he,?_,fun y hy=>by cases hy⟩ (star_swap s2))
 rw [List.filter_eq_self.2 fun e _=>by simp]
 exact he.eq
set_option maxHeartbeats 1000000 in
theorem mo_nextD {o:Operand} (hm:ev e o=some (.pointer (some ⟨r,0,none⟩))) (hh:Has L (ranD ki b r l todo cur) F) :
  Mo P e (.next o false) ty L fun v' L'=>(v'=.tuple #[.bool false]∧todo=[]∧L'=ranD ki b r l todo cur::F) ∨
   ∃ y todo',(y::todo').Perm todo∧v'=.tuple #[.bool true,.int ki y.1,y.2]∧L'=ranD ki b r l todo' (some y)::F:=by
 intro M _ _ tt h Q X ag s q
 show wpS P M (Sem.bind (Instr.next (evT tt o) false ty) fun v=>pure (.value v)) h Q X
 rw [ag.ev hm]
 obtain ⟨es,clock,seen,⟨he,hn,hc⟩,s'⟩:=ranD_obj (hh.star s)
 have sw:=star_swap s'
 refine wpS_bind _ _ ?_
 unfold Instr.next
 refine ⟨_,(star_setObj (o':=.map #[] 0) sw).1,?_⟩
 refine ⟨_,(star_setObj (o':=.map #[] 0) s').1,?_⟩
 have hall:(!seen.isEmpty&&!es.toArray.isEmpty&&es.toArray.all fun x=>decide (x.born≥clock))=false:=by
  cases es with
  | nil=>simp
  | cons x es =>
   have:=he.lt x (by simp)
   simp [show ¬ clock≤x.born by omega]
 have hsz:∀ (old new:Array MapEntry),0<((if old.isEmpty=true then #[none] else #[])++(old++new).map some:Array (Option MapEntry)).size:=fun old new=>by
  by_cases ho:old.isEmpty=true
  ·rw [if_pos ho,Array.size_append];show 0<1+_;omega
  ·rw [if_neg ho]
   have:0<old.size:=by
    rcases Nat.eq_zero_or_pos old.size with h0 | h0
    ·exact absurd (by simpa using h0) ho
    ·exact h0
   simp;omega
 show wpS P M (if (!seen.isEmpty&&!es.toArray.isEmpty&&es.toArray.all fun x=>decide (x.born≥clock))=true then _ else _) h _ X
 rw [if_neg (by rw [hall];simp)]
 obtain ⟨lf,hlf⟩:∃ lf,(es.toArray.filter fun e=>!seen.contains e.born)=lf:=⟨_,rfl⟩
 rw [hlf]
 refine wpS_mapNext (hsz _ _) fun i hi=>?_
 obtain ⟨cds,hcd⟩:∃ cds:Array (Option MapEntry),((if (lf.filter fun x=>decide (x.born<clock)).isEmpty=true then #[none] else #[])++((lf.filter fun x=>decide (x.born<clock))++lf.filter fun x=>decide (x.born≥clock)).map some)=cds:=⟨_,rfl⟩
 rw [hcd] at hi ⊢
 obtain ⟨c,hci⟩:∃ c,cds[i]?=some c:=⟨cds[i],Array.getElem?_eq_getElem hi⟩
 have hlist:lf.toList=es.filter fun e=>!seen.contains e.born:=by rw [← hlf];simp
 rw [hci]
 cases c with
 | none =>
  have hold:(lf.filter fun x=>decide (x.born<clock)).isEmpty=true:=by
   by_cases ho:(lf.filter fun x=>decide (x.born<clock)).isEmpty=true
   ·exact ho
   ·rw [if_neg ho] at hcd
    have h1:=Array.mem_of_getElem? hci
    rw [← hcd] at h1
    simp at h1
  have hnil:lf.toList=[]:=by
   have h1:(lf.filter fun x=>decide (x.born<clock)).toList=[]:=by simpa using hold
   rw [Array.toList_filter] at h1
   rw [List.filter_eq_self.2 fun z hz=>by
    rw [hlist] at hz
    simpa using he.lt z (List.mem_filter.1 hz).1] at h1
   exact h1
  have htodo:todo=[]:=by
   rw [← hlist,hnil] at hn
   cases todo with
   | nil=>rfl
   | cons a t=>simp at hn
  exact q _ _ _ _ (.inl rfl) (.inl ⟨rfl,htodo,rfl⟩) (ranD_of ⟨he,hn,hc⟩ s')
 | some y =>
  have hmem:y∈lf:=by
   have h1:=Array.mem_of_getElem? hci
   rw [← hcd] at h1
   rcases Array.mem_append.1 h1 with h1 | h1
   ·split at h1 <;> simp at h1
   ·obtain ⟨z,hz,ez⟩:=Array.mem_map.1 h1
    cases ez
    rcases Array.mem_append.1 hz with h2 | h2 <;> exact (Array.mem_filter.1 h2).1
  have hmemL:y∈es.filter fun e=>!seen.contains e.born:=by rw [← hlist];simpa using hmem
  have hy1:=(List.mem_filter.1 hmemL).1
  obtain ⟨j,hj⟩:=List.mem_iff_getElem?.1 hy1
  have hlt:j<l.length:=by rw [← he.len];exact (List.getElem?_eq_some_iff.1 hj).1
  obtain ⟨e',h5,h6,h7⟩:=he.get (List.getElem?_eq_getElem hlt)
  rw [hj] at h5;cases h5
  obtain ⟨k1,k2⟩:=star_setObj (o':=.mapIter (some b) clock (seen.push y.born) clock) sw
  refine ⟨by rw [k1];rfl,rfl,?_⟩
  have hflt:(es.filter fun e=>!(seen.push y.born).contains e.born)=(es.filter fun e=>!seen.contains e.born).filter fun e=>!(e.born == y.born):=by
   rw [List.filter_filter]
   congr 1
   funext z
   rw [Bool.eq_iff_iff]
   simp
   constructor
   ·rintro ⟨h1,h2⟩;exact ⟨h2,h1⟩
   ·rintro ⟨h1,h2⟩;exact ⟨h2,h1⟩
  have hperm:=perm_filter (g:=MapEntry.born) (y:=y) (l:=es.filter fun e=>!seen.contains e.born) (he.nd.sublist ((List.filter_sublist).map _)) hmemL
  rw [← hflt] at hperm
  obtain ⟨todo',ht'⟩:∃ todo':List (Int × Value),(es.filter fun e=>!(seen.push y.born).contains e.born).map (fun e=>(e.key,e.val))=todo'.map fun y=>(Value.int ki y.1,y.2):=by
   have h1:∀ z∈(es.filter fun e=>!(seen.push y.born).contains e.born),∃ w∈l,(z.key,z.val)=(Value.int ki w.1,w.2):=fun z hz=>by
    have h2:(z.key,z.val)∈es.map (fun e=>(e.key,e.val)):=List.mem_map_of_mem (f:=fun e:MapEntry=>(e.key,e.val)) (List.mem_filter.1 hz).1
    rw [he.eq] at h2
    obtain ⟨w,hw,e⟩:=List.mem_map.1 h2
    exact ⟨w,hw,e.symm⟩
   generalize (es.filter fun e=>!(seen.push y.born).contains e.born)=lst at h1
   induction lst with
   | nil=>exact ⟨[],rfl⟩
   | cons a t ih =>
    obtain ⟨t',ht⟩:=ih fun z hz=>h1 z (by simp [hz])
    obtain ⟨w,_,hw⟩:=h1 a (by simp)
    exact ⟨w::t',by rw [List.map_cons,List.map_cons,hw,ht]⟩
  have hinj:∀ (a c:List (Int × Value)),(a.map fun y=>(Value.int ki y.1,y.2)).Perm (c.map fun y=>(Value.int ki y.1,y.2))→a.Perm c:=fun a c hp=>by
   have h1:=hp.map (fun p:Value × Value=>((match p.1 with | .int _ n=>n | _=>0:Int),p.2))
   simpa [List.map_map,Function.comp_def] using h1
  refine q _ _ _ _ (.inl rfl) (.inr ⟨l[j],todo',?_,by rw [h6,h7],rfl⟩) (ranD_of ⟨he,ht',fun z hz=>?_⟩ (star_swap k2))
  ·refine hinj _ _ ?_
   rw [← hn,List.map_cons,← ht']
   have h2:=hperm.map (fun e:MapEntry=>(e.key,e.val))
   rw [List.map_cons,h6,h7] at h2
   exact h2
  ·cases hz
   exact ⟨y,hy1,by simp,h6,h7⟩
theorem mo_entryD {o:Operand} {y:Int × Value} (hm:ev e o=some (.pointer (some ⟨r,0,none⟩))) (hh:Has L (ranD ki b r l todo (some y)) F) :
  Mo P e (.entry o) ty L fun v' L'=>v'=.tuple #[.int ki y.1,y.2]∧L'=L:=by
 intro M _ _ tt h Q X ag s q
 show wpS P M (Sem.bind (Instr.entry (evT tt o)) fun v=>pure (.value v)) h Q X
 rw [ag.ev hm]
 obtain ⟨es,clock,seen,⟨he,hn,hc⟩,s'⟩:=ranD_obj (hh.star s)
 obtain ⟨e',h1,h2,h3,h4⟩:=hc y rfl
 have sw:=star_swap s'
 refine wpS_bind _ _ ?_
 unfold Instr.entry
 refine ⟨_,(star_setObj (o':=.map #[] 0) sw).1,?_⟩
 show wpS P M (match seen.back? with | some stamp=>_ | _=>_) h _ X
 rw [h2]
 refine ⟨_,(star_setObj (o':=.map #[] 0) s').1,?_⟩
 show wpS P M (if (clock != clock)=true then _ else _) h _ X
 rw [if_neg (by simp)]
 have hf:es.toArray.find? (fun x=>x.born == e'.born)=some e':=by
  rw [List.find?_toArray]
  obtain ⟨z,hz⟩:∃ z,es.find? (fun x=>x.born == e'.born)=some z:=by
   cases hz:es.find? (fun x=>x.born == e'.born) with
   | none=>have:=List.find?_eq_none.1 hz e' h1;simp at this
   | some z=>exact ⟨z,rfl⟩
  have hz1:=List.mem_of_find?_eq_some hz
  have hz2:=List.find?_some hz
  simp only [beq_iff_eq] at hz2
  rw [hz]
  congr 1
  obtain ⟨i,hi⟩:=List.mem_iff_getElem?.1 hz1
  obtain ⟨j,hj⟩:=List.mem_iff_getElem?.1 h1
  have hnd:=he.nd
  obtain ⟨hil,hie⟩:=List.getElem?_eq_some_iff.1 hi
  obtain ⟨hjl,hje⟩:=List.getElem?_eq_some_iff.1 hj
  have:i=j:=by
   refine (List.getElem_inj (xs:=es.map (·.born)) (h₀:=by simpa using hil) (h₁:=by simpa using hjl) hnd).1 ?_
   simp [hie,hje,hz2]
  subst this
  rw [← hie,← hje]
 rw [hf]
 refine q _ L _ _ (.inl rfl) ⟨?_,rfl⟩ s
 rw [h3,h4]
theorem mo_lookupD {t key el:Nat} {kk:IntKind} {zv:Value} {m ko:Operand} {k:Int} [p:Und P t (.map key el)] [pk:InT P key kk] [z:Zer P el zv] (hm:ev e m=some (.map (some b))) (hk:ev e ko=some (.int ki k)) (hh:Has L (ranD ki b r l todo cur) F) :
  Mo P e (.lookup t m ko false) ty L fun v' L'=>v'=(mGet l k).getD zv∧L'=L:=by
 intro M _ _ tt h Q X ag s q
 show wpS P M (Sem.bind (Instr.lookup t (evT tt m) (evT tt ko) false) fun v=>pure (.value v)) h Q X
 rw [ag.ev hm,ag.ev hk]
 refine wpS_bind _ _ (wpS_lookup p.ok pk.ok z.ok (ranD_map (hh.star s)) (q _ L _ _ (.inl rfl) ⟨?_,rfl⟩ s))
 rw [if_neg (by decide)]
end
end
end Go.PB
namespace Go.Proofs.Ytodgemainhokjaa
open Go Go.PB
attribute [local irreducible] Mo Bin Eql Tr Wo Ap Wle
attribute [local instance] Pass.of_no
section
def sfP0 (y:Nat × Nat × Nat):SfP:=⟨y.2.1,y.2.2,[],false,[],false⟩
theorem sf_free {Ro:HProp} {t5 ib t8 t4 t10 pb r n k nt times N:Nat} {y:Nat × Nat × Nat} (O:SfRo Ro t5 ib t8 t4 t10 pb y.2.1 r n k nt times) (h1:1≤n) (h2:n≤16) :
  ThrF ((sfG n).g (sAddr r) (n+1) []) N ⟨sfF t5 ib t8 t4 t10,(⟨sfOps k 0 times,.idle,sfP0 y⟩:SlfQ SfP),all [Ro,sfB (sfP0 y)]⟩ where
 run:=by
  refine ⟨_,_,_,rfl,inferInstance,fun wg F=>?_⟩
  refine tr_star (Ro::sfB (sfP0 y)::F) (fun hp st=>star_open (M:=[_,_]) st) ?_
  refine (sft_tr (bk:=y.2.1) (mb:=y.2.2) (m0:=N) O h1 h2 rfl rfl rfl).mono ?_
  rintro v L' x' ⟨p,s,hs,rfl,rfl,rfl⟩
  refine ⟨s.q,s.n,rfl,?_,fun hp st=>?_⟩
  ·show slfPlan (sfD n) s.q=none
   rw [hs];rfl
  ·show Star (all [sfB (show SlfQ SfP from s.q).p]::F) hp
   rw [hs]
   exact star_shut (M:=[_]) (Ent.star (.take (.there .here) (.drop .refl)) st)
def bxF (ts:List (Nat × Nat × Nat)):List HProp:=ts.mapIdx fun i y=>fro y.1 0 [.int .i64 (i:Nat)]
theorem bxF_snoc {ts:List (Nat × Nat × Nat)} {y:Nat × Nat × Nat}:bxF (ts++[y])=bxF ts++[fro y.1 0 [.int .i64 (ts.length:Nat)]]:=by
 unfold bxF
 rw [List.mapIdx_append]
 simp
def bkF (ts:List (Nat × Nat × Nat)):List HProp:=ts.map fun y=>sfB (sfP0 y)
def ptF (ts:List (Nat × Nat × Nat)):List Value:=ts.map fun y=>.pointer (some ⟨y.2.1,0,none⟩)
def sfTc (RoS:HProp) (i:Nat) (y:Nat × Nat × Nat):HProp:=all [all [RoS,fro y.1 0 [.int .i64 (i:Nat)]],sfB (sfP0 y)]
theorem dealF {RoS:HProp} (hd:Dup RoS) {ts:List (Nat × Nat × Nat)} {L:List HProp} {h:Hp} (s:Star (RoS::all (bxF ts)::all (bkF ts)::L) h):Star (all (ts.mapIdx (sfTc RoS))::RoS::L) h:=by
 have s1:=dup_many hd s ts.length
 have s2:Star (all (List.replicate ts.length RoS)::all (bxF ts)::all (bkF ts)::RoS::L) h:=Ent.star (.take .here (.take (.there .here) (.take (.there .here) (.take .here .refl)))) s1
 have s3:=star_zip (by simp [bxF]) s2
 have s4:=star_zip (by simp [bxF,bkF]) s3
 have e:List.zipWith (fun a b=>all [a,b]) (List.zipWith (fun a b=>all [a,b]) (List.replicate ts.length RoS) (bxF ts)) (bkF ts)=ts.mapIdx (sfTc RoS):=by
  apply List.ext_getElem?
  intro i
  by_cases hi:i<ts.length
  ·simp [bxF,bkF,sfTc,hi,List.getElem?_zipWith]
  ·have h1:(ts.mapIdx (sfTc RoS))[i]?=none:=List.getElem?_eq_none_iff.2 (by simp;omega)
   rw [h1]
   apply List.getElem?_eq_none_iff.2
   simp [bxF,bkF];omega
 rw [e] at s4
 exact s4
abbrev sfS (t5 t8 t4 t10 pb r n nt times:Nat) (ts:List (Nat × Nat × Nat)) (L:List HProp):List HProp:=[fro r 1 [.int .i64 (n:Nat)],fro t5 0 [.int .i64 (times:Nat)],fro t8 0 [.pointer (some ⟨r,0,none⟩)],fro t4 0 [.int .i64 (n:Nat)],fro t10 0 [.slice (some ⟨pb,0,none⟩) nt nt],fro pb 0 (ptF ts),all L]
def sfTs (t5 t8 t4 t10 r n times:Nat) (RoS:HProp) (ts:List (Nat × Nat × Nat)):List (ThrT ((sfG n).g (sAddr r) (n+1) [])):=ts.mapIdx fun i y=>⟨sfF t5 y.1 t8 t4 t10,(show ((sfG n).g (sAddr r) (n+1) []).θ from (⟨sfOps i 0 times,.idle,sfP0 y⟩:SlfQ SfP)),sfTc RoS i y⟩
def sfQs (times:Nat) (ts:List (Nat × Nat × Nat)):List (SlfQ SfP):=ts.mapIdx fun i y=>(⟨sfOps i 0 times,.idle,sfP0 y⟩:SlfQ SfP)
section
variable {t5 t8 t4 t10 pb r n nt times:Nat} {ts:List (Nat × Nat × Nat)} {L:List HProp} {RoS:HProp}
theorem sfTs_ro (hts:ts.length=nt) (hn:nt≤7) (ht:times≤40) {i:Nat} {y:Nat × Nat × Nat} (hy:ts[i]?=some y):SfRo (all [all (sfS t5 t8 t4 t10 pb r n nt times ts L),fro y.1 0 [.int .i64 (i:Nat)]]) t5 y.1 t8 t4 t10 pb y.2.1 r n i nt times:=by
 have hil:=(List.getElem?_eq_some_iff.1 hy).1
 have lift:∀ {b1 o v},Rd (sfS t5 t8 t4 t10 pb r n nt times ts L) b1 o v→Rd [all [all (sfS t5 t8 t4 t10 pb r n nt times ts L),fro y.1 0 [.int .i64 (i:Nat)]]] b1 o v:=fun h=>rd_all (rd_all h)
 exact
  {
   h1:=lift (.there (Rd.fro (k:=0) rfl rfl))
   h2:=rd_all (.there (Rd.fro (k:=0) rfl rfl))
   h3:=lift (.there (.there (Rd.fro (k:=0) rfl rfl)))
   h4:=lift (.there (.there (.there (Rd.fro (k:=0) rfl rfl))))
   h5:=lift (.there (.there (.there (.there (Rd.fro (k:=0) rfl rfl)))))
   h6:=lift (.there (.there (.there (.there (.there (Rd.fro (k:=i) (by unfold ptF;rw [List.getElem?_map,hy];rfl) rfl))))))
   hC:=lift (Rd.fro (k:=0) rfl rfl)
   hk:=by omega
   hn:=hn
   ht:=ht }
theorem sfTs_at {t:ThrT ((sfG n).g (sAddr r) (n+1) [])} (ht:t∈sfTs t5 t8 t4 t10 r n times RoS ts):∃ i y,ts[i]?=some y∧t=⟨sfF t5 y.1 t8 t4 t10,(⟨sfOps i 0 times,.idle,sfP0 y⟩:SlfQ SfP),sfTc RoS i y⟩:=by
 obtain ⟨i,hi⟩:=List.mem_iff_getElem?.1 ht
 simp only [sfTs,List.getElem?_mapIdx,Option.map_eq_some_iff] at hi
 obtain ⟨y,hy,rfl⟩:=hi
 exact ⟨i,y,hy,rfl⟩
theorem sfTs_M:(sfTs t5 t8 t4 t10 r n times RoS ts).map ThrT.M=ts.mapIdx (sfTc RoS):=by
 apply List.ext_getElem?
 intro k
 simp only [sfTs,List.getElem?_map,List.getElem?_mapIdx]
 cases ts[k]? <;> rfl
theorem sfTs_fv:(sfTs t5 t8 t4 t10 r n times RoS ts).map ThrT.fv=ts.map fun y=>sfF t5 y.1 t8 t4 t10:=by
 apply List.ext_getElem?
 intro k
 simp only [sfTs,List.getElem?_map,List.getElem?_mapIdx]
 cases ts[k]? <;> rfl
theorem sfTs_q:sfQs times ts=(sfTs t5 t8 t4 t10 r n times RoS ts).map fun t=>(show SlfQ SfP from t.q0):=by
 unfold sfQs sfTs
 apply List.ext_getElem?
 intro k
 rw [List.getElem?_map,List.getElem?_mapIdx,List.getElem?_mapIdx]
 cases ts[k]? <;> rfl
def sfK (q:SlfQ SfP):Nat × Nat:=(q.p.bk,q.p.mb)
theorem sfk_set {qs:List (SlfQ SfP)} {m:Nat} {q q':SlfQ SfP} (hq:qs[m]?=some q) (h:sfK q'=sfK q):(qs.set m q').map sfK=qs.map sfK:=by
 have hlt:m<qs.length:=(List.getElem?_eq_some_iff.1 hq).1
 rw [List.map_set,h]
 apply List.ext_getElem?
 intro j
 rw [List.getElem?_set]
 split
 ·rename_i hj
  subst hj
  rw [if_pos (by rw [List.length_map];exact hlt),List.getElem?_map,hq];rfl
 ·rfl
structure SfI (n N:Nat) (ks:List (Nat × Nat)) (s:SlfS Unit) (qs:List (SlfQ SfP)) (m:Nat):Prop where
 I:SlfI (sfD n) (fun x=>x≤100000) SfJ m s qs
 N:m+sumN (qs.map (slfφ n))≤N
 k:qs.map sfK=ks
def sfFd (r n:Nat) (h1:1≤n) (h2:n≤16) (N:Nat) (hN:N<1000000000) (q0:List (SlfQ SfP)):FreeD ((sfG n).g (sAddr r) (n+1) []) where
 q0:=q0
 N:=N
 I:=fun s qs=>∃ m,SfI n N (q0.map sfK) s qs m
 φ:=fun s qs=>sumN ((show List (SlfQ SfP) from qs).map (slfφ n))
 ok:=fun s qs h=>trivial
 step:=fun s qs j q mk f h hq hp=>by
  obtain ⟨m,h3,h4,h5⟩:=h
  have hle:sumN ((show List (SlfQ SfP) from qs).map (slfφ n))≤N:=Nat.le_trans (Nat.le_add_left _ m) h4
  have hmN:m≤N:=Nat.le_trans (Nat.le_add_right _ _) h4
  have h4':m+sumN ((show List (SlfQ SfP) from qs).map (slfφ n))≤N:=h4
  obtain ⟨a,b⟩:=sf_step h1 h2 (by omega) h3 hq hp
  have b':sumN ((List.set (α:=SlfQ SfP) qs j (f s).2).map (slfφ n))+1≤sumN ((show List (SlfQ SfP) from qs).map (slfφ n)):=b
  refine ⟨⟨m+1,a,by show m+1+sumN ((List.set (α:=SlfQ SfP) qs j (f s).2).map (slfφ n))≤N;omega,?_⟩,b⟩
  obtain ⟨k1,k2⟩:=sf_keep hp s
  rw [← h5]
  exact sfk_set hq (by unfold sfK;rw [k1,k2])
theorem sfOps_mem {x:Nat}:∀ {m k i:Nat},some x∈sfOps k i m→x≤1+1000*k+i+m
 | 0,k,i,h=>by simp [sfOps] at h
 | m+1,k,i,h=>by
  simp only [sfOps,List.mem_cons,Option.some.injEq,reduceCtorEq,false_or] at h
  rcases h with rfl | h
  ·omega
  ·have:=sfOps_mem h;omega
theorem sfOps_len:∀ (m k i:Nat),(sfOps k i m).length=4*m
 | 0,k,i=>rfl
 | m+1,k,i=>by simp only [sfOps,List.length_cons,sfOps_len m k (i+1)];omega
def sfS0:SlfS Unit:=⟨0,fun j=>j,[0],()⟩
theorem sf_I0 (h16:n≤16) (h7:ts.length≤7) (ht:times≤40):SlfI (sfD n) (fun x=>x≤100000) SfJ 0 sfS0 (sfQs times ts)∧sumN ((sfQs times ts).map (slfφ n))≤22400:=by
 have hmem:∀ (k:Nat) q,(sfQs times ts)[k]?=some q→∃ y,ts[k]?=some y∧q=⟨sfOps k 0 times,.idle,sfP0 y⟩:=fun k q hq=>by
  simp only [sfQs,List.getElem?_mapIdx,Option.map_eq_some_iff] at hq
  obtain ⟨y,h1,rfl⟩:=hq
  exact ⟨y,h1,rfl⟩
 have hk7:∀ (k:Nat) y,ts[k]?=some y→k<7:=fun k y h=>by
  have:=(List.getElem?_eq_some_iff.1 h).1
  omega
 have hp:∀ p∈(sfQs times ts).map (·.p),∃ y,p=sfP0 y:=fun p h=>by
  obtain ⟨q,hq,rfl⟩:=List.mem_map.1 h
  obtain ⟨k,hk⟩:=List.mem_iff_getElem?.1 hq
  obtain ⟨y,_,rfl⟩:=hmem k q hk
  exact ⟨y,rfl⟩
 refine ⟨⟨Nat.le_refl 1,Nat.le_refl 1,.inl ⟨rfl,fun j hj=>?_,fun k q hq=>?_⟩,fun k q hq=>?_,?_⟩,?_⟩
 ·show j=0*100+j
  omega
 ·obtain ⟨y,_,rfl⟩:=hmem k q hq
  rfl
 ·obtain ⟨y,h1,rfl⟩:=hmem k q hq
  refine ⟨fun x hx=>?_,trivial⟩
  have:=sfOps_mem hx
  have:=hk7 k y h1
  show x≤100000
  omega
 ·have hw:∀ l:List SfP,(∀ p∈l,∃ y,p=sfP0 y)→(l.map SfP.wr).flatten=[]∧sumN (l.map fun p=>p.rd.length)=0:=fun l=>by
   induction l with
   | nil=>intro _;exact ⟨rfl,rfl⟩
   | cons a l ih =>
    intro h
    obtain ⟨h1,h2⟩:=ih fun p hp=>h p (by simp [hp])
    obtain ⟨y,rfl⟩:=h a (by simp)
    refine ⟨by rw [List.map_cons,List.flatten_cons,h1];rfl,?_⟩
    simp only [List.map_cons,sumN,List.foldr_cons] at h2 ⊢
    rw [h2];rfl
  obtain ⟨h1,h2⟩:=hw _ hp
  exact
   {
    ok:=fun p h=>by obtain ⟨y,rfl⟩:=hp p h;exact ⟨rfl,rfl⟩
    w:=(List.Perm.of_eq h1).trans (List.Perm.refl _)
    x0:=rfl
    xb:=fun x hx=>by cases List.mem_singleton.1 hx;omega
    r:=fun p h v hv=>by obtain ⟨y,rfl⟩:=hp p h;simp [sfP0] at hv
    len:=Nat.le_of_eq h2 }
 ·have h1:∀ a∈(sfQs times ts).map (slfφ n),a≤3200:=fun a ha=>by
   obtain ⟨q,hq,rfl⟩:=List.mem_map.1 ha
   obtain ⟨k,hk⟩:=List.mem_iff_getElem?.1 hq
   obtain ⟨y,_,rfl⟩:=hmem k q hk
   show (sfOps k 0 times).length*(n+4)-0≤3200
   rw [sfOps_len]
   have:=Nat.mul_le_mul (show 4*times≤160 by omega) (show n+4≤20 by omega)
   omega
  have h2:=sumN_leW h1
  rw [List.length_map] at h2
  have h3:(sfQs times ts).length=ts.length:=by simp [sfQs]
  omega
theorem sf_end {N m:Nat} {ks:List (Nat × Nat)} {s:SlfS Unit} {qs:List (SlfQ SfP)} (h:SfI n N ks s qs m) (hp:∀ q∈qs,slfPlan (sfD n) q=none) :
  s.ver=2*(s.xs.length-1)∧(∃ x,s.xs[s.xs.length-1]?=some x∧∀ j,j<n→s.ws j=x*100+j):=by
 have hl:=h.I.lo
 have hx:∃ x,s.xs[s.xs.length-1]?=some x∧slfLast s.xs=x:=by
  refine ⟨s.xs[s.xs.length-1],List.getElem?_eq_getElem (by omega),?_⟩
  unfold slfLast
  rw [List.getLast?_eq_getElem?,List.getElem?_eq_getElem (by omega)]
  rfl
 rcases h.I.V with ⟨a,b,_⟩ | ⟨_,k,x,rest,j,p,hq,_,_⟩
 ·obtain ⟨x,h1,h2⟩:=hx
  exact ⟨a,x,h1,fun j hj=>by rw [← h2];exact b j hj⟩
 ·have:=hp _ (List.mem_of_getElem? hq)
  unfold slfPlan at this
  simp only at this
  split at this <;> cases this
end
end
end Go.Proofs.Ytodgemainhokjaa
namespace Go.Proofs.Ytodgemainhokjaa
open Go Go.PB
attribute [local irreducible] Mo Bin Eql Tr Wo Ap Wle
section
theorem wds_cut1 {addr:Nat→Nat × Nat} {N r o:Nat} {v:Value} {K:List (Nat × Nat × Value)} {f:Nat→Nat} (A:Apart addr N ((r,o,v)::K)) (hK:∀ k∈K,¬ (k.1=r∧k.2.1=o)) {L:List HProp} {h:Hp} (s:Star (wds addr N ((r,o,v)::K) f::L) h):Star (wds addr N K f::arr r o [v]::L) h:=by
 obtain ⟨h1,h2,sp,hc,hL⟩:=s
 have hk:h1.own r o=some v:=hc.2 (r,o,v) List.mem_cons_self
 let ha:Hp:={ h1 with own:=fun b p=>if b=r∧p=o then none else h1.own b p }
 let hb:Hp:=⟨fun b p=>if b=r∧p=o then some v else none,fun _ _=>none,fun _=>none,fun _=>none⟩
 have s1:Split h1 ha hb:=by
  refine ⟨fun _ _ _ e=>e,fun _ _ _ e=>(by cases e),fun b p u e=>?_,fun b p u e=>?_,fun b p=>?_,fun _ _ e=>e,fun _ _ e=>(by cases e),fun _=>.inr rfl,fun _ _ e=>e,fun _ _ e=>(by cases e)⟩
  ·simp only [ha] at e;split at e
   ·cases e
   ·exact e
  ·simp only [hb] at e;split at e
   ·rename_i hh;cases e;rw [hh.1,hh.2];exact hk
   ·cases e
  ·by_cases hh:b=r∧p=o
   ·left;simp [ha,hh]
   ·right;simp [hb,hh]
 obtain ⟨t1,t2⟩:=sp.swap.assoc s1
 refine ⟨ha,_,t1,⟨fun w hw=>?_,fun k hk=>?_⟩,hb,h2,t2.swap,fun i u hi=>?_,hL⟩
 ·obtain ⟨e1,e2⟩:=hc.1 w hw
  refine ⟨e1,?_⟩
  have hne:=A.fix w hw (r,o,v) List.mem_cons_self
  show (if (addr w).1=r∧(addr w).2=o then none else h1.own (addr w).1 (addr w).2)=_
  rw [if_neg fun hh=>hne (Prod.ext hh.1 hh.2)];exact e2
 ·show (if k.1=r∧k.2.1=o then none else h1.own k.1 k.2.1)=_
  rw [if_neg (hK k hk)];exact hc.2 k (List.mem_cons_of_mem _ hk)
 ·have:i=0:=by have:=(List.getElem?_eq_some_iff.1 hi).1;simp at this;omega
  subst this
  simp at hi;subst hi
  show (if r=r∧o+0=o then some _ else none)=_
  rw [if_pos ⟨rfl,Nat.add_zero o⟩]
theorem cut_own2 {A:HProp} (hA:∀ r:Hp,A r→A { r with obj:=fun _=>none }) {r:Hp} (h:Star [A,fun _=>True] r):Star [A,fun _=>True] { r with obj:=fun _=>none }:=by
 obtain ⟨h1,h2,sp,c,h3⟩:=h
 exact ⟨{ h1 with obj:=fun _=>none },{ h2 with obj:=fun _=>none },⟨sp.r1,sp.r2,sp.o1,sp.o2,sp.od,fun _ _ e=>(by cases e),fun _ _ e=>(by cases e),fun _=>.inr rfl,sp.s1,sp.s2⟩,hA _ c,star_one trivial⟩
end
section
section
variable {B:Hand} [Lets B]
def kpAcc (x:B.X) (addr:Nat→Nat × Nat) (N:Nat) (A:Apart addr N []) (Cf:HProp):Acc B .nilIface where
 S:=Nat→Nat
 C:=fun s=>all [wds addr N [] s,Cf]
 x:=fun _=>x
 step:=fun _ _ s R=>R s
 addr:=addr
 load:=fun w s R=>w<N∧R (s w) s
 store:=fun w n s R=>w<N∧R (upd s w n)
 cas:=fun w a n s R=>w<N∧if s w=a then R true (upd s w n) else R false s
 add:=fun w n s R=>w<N∧R ((s w+n)%18446744073709551616) (upd s w ((s w+n)%18446744073709551616))
 swap:=fun w n s R=>w<N∧R (s w) (upd s w n)
 gate:=.inl ⟨rfl,fun _ _ _ _ h=>h⟩
 load_ok:=fun w s R L F b o ha hl hh=>tr_star _ (fun h st=>star_open (hh.star st)) (tr_pure (of_has .here fun h hc=>(hc.1 w hl.1).1) fun hs =>
  (load_lone (rd_wds .here hl.1 ha)).post fun v L' x' ⟨h1,h2,h3⟩=>⟨_,⟨s w,s,hs,hl.2,h1,rfl,h3⟩,fun h st=>star_shut (M:=[_,_]) (by rw [h2] at st;exact st)⟩)
 store_ok:=fun w n s R L F b o ha hn hl hh=>tr_star _ (fun h st=>star_open (hh.star st))
  ((store_lone (wt_wds A .here hl.1 ha hn)).post fun v L' x' ⟨h1,h2,h3⟩=>⟨_,⟨upd s w n,hl.2,h1,rfl,h3⟩,fun h st=>star_shut (M:=[_,_]) (by rw [h2] at st;exact st)⟩)
 cas_ok:=fun w m n s R L F b o ha hn hl hh=>tr_star _ (fun h st=>star_open (hh.star st))
  ((cas_lone (rd_wds .here hl.1 ha) (wt_wds A .here hl.1 ha hn)).post fun v L' x' ⟨h1,h2,h3⟩=>by
   obtain ⟨h4,h5⟩:=hl
   by_cases e:s w=m
   ·rw [if_pos e] at h5;rw [if_pos (by omega)] at h2;exact ⟨_,⟨true,_,h5,by rw [h1];simp [e],rfl,h3⟩,fun h st=>star_shut (M:=[_,_]) (by rw [h2] at st;exact st)⟩
   ·rw [if_neg e] at h5;rw [if_neg (by omega)] at h2;exact ⟨_,⟨false,_,h5,by rw [h1];simp;omega,rfl,h3⟩,fun h st=>star_shut (M:=[_,_]) (by rw [h2] at st;exact st)⟩)
 add_ok:=fun w n s R L F b o ha hn hl hh=>tr_star _ (fun h st=>star_open (hh.star st))
  ((add_lone (r:=((s w+n)%18446744073709551616:Nat)) (rd_wds .here hl.1 ha) (by rw [wrap_u64_mod];omega) (wt_wds A .here hl.1 ha (Nat.mod_lt _ (by decide)))).post fun v L' x' ⟨h1,h2,h3⟩=>⟨_,⟨_,_,Nat.mod_lt _ (by decide),hl.2,h1,rfl,h3⟩,fun h st=>star_shut (M:=[_,_]) (by rw [h2] at st;exact st)⟩)
end
end
end Go.Proofs.Ytodgemainhokjaa
namespace Go.Proofs.Ytodgemainhokjaa
open Go Go.PB
attribute [local irreducible] Mo Bin Eql Tr Wo Ap Wle
attribute [local instance] Pass.of_no
section
theorem ptF_set {ts:List (Nat × Nat × Nat)} {i nt:Nat} {y:Nat × Nat × Nat} (h:ts.length=i) (hlt:i<nt):(ptF ts++List.replicate (nt-i) (Value.pointer none)).set i (Value.pointer (some ⟨y.2.1,0,none⟩))=ptF (ts++[y])++List.replicate (nt-(i+1)) (Value.pointer none):=by
 obtain ⟨d,hd⟩:∃ d,nt-i=d+1:=⟨nt-i-1,by omega⟩
 rw [hd,show nt-(i+1)=d by omega,List.replicate_succ,List.set_append_right _ _ (by simp [ptF,h])]
 simp [ptF,h]
def sfOut (b4 b5 b8 b10 pb nt:Nat) (L5:List HProp):PB.Inv (Nat × Nat × Value × List (Nat × Nat × Nat)) MX where
 e:=fun i=>[(4,.pointer (some ⟨b4,0,none⟩)),(5,.pointer (some ⟨b5,0,none⟩)),(7,.int .i64 (nt:Nat)),(8,.pointer (some ⟨b8,0,none⟩)),(10,.pointer (some ⟨b10,0,none⟩)),(11,i.2.2.1),(12,.pointer (some ⟨i.2.1,0,none⟩))]
 L:=fun i=>arr i.2.1 0 [.int .i64 (i.1:Nat)]::vec 1 i.2.2.1 (i.2.2.2.map fun y=>sfF b5 y.1 b8 b4 b10)::all (bxF i.2.2.2)::all (bkF i.2.2.2)::arr pb 0 (ptF i.2.2.2++List.replicate (nt-i.1) (.pointer none))::L5
 x:=fun _=>.idle
 ok:=fun i=>i.1≤nt∧i.2.2.2.length=i.1
theorem wl_memx:∀ (xs:List Nat) (o:Nat) (y:Int × Value),y∈wl o xs→∃ q x,xs[q]?=some x∧y=(((2*(o+q):Nat):Int),num x)
 | [],o,y,h=>by cases h
 | x::xs,o,y,h=>by
  unfold wl at h
  rcases List.mem_cons.1 h with rfl | h
  ·exact ⟨0,x,rfl,rfl⟩
  ·obtain ⟨q,x',h1,h2⟩:=wl_memx xs (o+1) y h
   exact ⟨q+1,x',h1,by rw [h2,show o+1+q=o+(q+1) by omega]⟩
def mrInv (nt b8 b10 bkA mbA k rr mb:Nat) (wr A:List (Int × Value)) (F0 F1:HProp) (F2:List HProp):PB.Inv (List (Int × Value) × List (Int × Value) × Option (Int × Value)) MX where
 e:=fun _=>[(7,.int .i64 (nt:Nat)),(8,.pointer (some ⟨b8,0,none⟩)),(10,.pointer (some ⟨b10,0,none⟩)),(13,.pointer (some ⟨bkA,0,none⟩)),(14,.int .i64 (k:Nat)),(78,.pointer (some ⟨rr,0,none⟩))]
 L:=fun i=>ranD .u64 mb rr wr i.2.1 i.2.2::F0::F1::mapC .u64 mbA i.1::F2
 x:=fun _=>.idle
 ok:=fun i=>∃ B,(B++i.2.1).Perm wr∧i.1.Perm (A++B)
theorem rloop_keep {x:MX} {r n:Nat} {Cf:HProp} {K:List Nat→(Nat→Nat)→Prop} {s:Nat→Nat}:∀ (k:Nat) (acc:List Nat),acc.length+k≤n→K (acc++(List.range' acc.length k).map fun i=>s (1+i)) s→RLoop (kpAcc (B:=mT) x (sAddr r) (n+1) (s_apart0 r n) Cf) K k acc s
 | 0,acc,_,hk=>by
  show K acc s
  simpa using hk
 | k+1,acc,hl,hk=>⟨by omega,rloop_keep k (acc++[s (1+acc.length)]) (by simp;omega) (by
   rw [List.range'_succ] at hk
   simpa using hk)⟩
theorem readT_keep {x:MX} {r n v:Nat} {ws:List Nat} {Cf:HProp} (hlen:ws.length=n) (hv:v%2=0) {Q:Option (List Nat × Nat)→(Nat→Nat)→Prop} (q:Q (some (ws,v)) (recF ws v)):ReadT (kpAcc (B:=mT) x (sAddr r) (n+1) (s_apart0 r n) Cf) n (recF ws v) Q:=by
 refine ⟨by show 0<n+1;omega,?_⟩
 show if v%2=0 then _ else _
 rw [if_pos hv]
 refine rloop_keep n [] (by simp) ⟨by show 0<n+1;omega,?_⟩
 show if v=v then _ else _
 rw [if_pos rfl]
 show Q (some (_,v)) _
 simp only [List.length_nil,List.nil_append]
 rw [← hlen,range_rec]
 exact q
theorem read_keep {L F:List HProp} {x:MX} {r n v:Nat} {ws:List Nat} {Cf:HProp} (h1:1≤n) (h2:n≤16) (hC:Rd [Cf] r 1 (.int .i64 (n:Nat))) (hlen:ws.length=n) (hv:v%2=0) (hh:Has L (all [wds (sAddr r) (n+1) [] (recF ws v),Cf]) F) :
  Tr Try.prog mT 16 [.pointer (some ⟨r,0,none⟩),.nilIface] L x fun v' L' x'=>∃ rv,v'=.tuple #[rv,.int .u64 (v:Nat),.int .i64 0]∧L'=all [wds (sAddr r) (n+1) [] (recF ws v),Cf]::vec 1 rv (ws.map num)::F∧x'=x:=by
 refine (read_tr (A:=kpAcc (B:=mT) x (sAddr r) (n+1) (s_apart0 r n) Cf) ⟨h1,h2,fun s=>rd_all (.there (Rd.of .here hC)),rfl,fun i _=>s_addr⟩ (s:=recF ws v) (Q:=fun o s=>o=some (ws,v)∧s=recF ws v) (readT_keep hlen hv ⟨rfl,rfl⟩) hh).mono ?_
 rintro v' L' x' ⟨o,s',rv,⟨rfl,rfl⟩,_,rfl,rfl,rfl⟩
 exact ⟨rv,rfl,rfl,rfl⟩
def mgInv (nt b8 b10 bkA mbA:Nat) (Q:List (SlfQ SfP)) (R:List HProp):PB.Inv (Nat × List (Int × Value) × List (Nat × Nat) × Value) MX where
 e:=fun i=>[(7,.int .i64 (nt:Nat)),(8,.pointer (some ⟨b8,0,none⟩)),(10,.pointer (some ⟨b10,0,none⟩)),(13,.pointer (some ⟨bkA,0,none⟩)),(14,.int .i64 (i.1:Nat))]
 L:=fun i=>mapC .u64 mbA i.2.1::arr bkA 0 [.map (some mbA),.bool false,i.2.2.2,.bool false]::vec 2 i.2.2.2 (i.2.2.1.map bkE).flatten::R
 x:=fun _=>.idle
 ok:=fun i=>i.1≤nt∧i.2.1.Perm ((Q.take i.1).map (·.p.wr)).flatten∧i.2.2.1=((Q.take i.1).map (·.p.rd)).flatten
theorem sf_bk {m:Nat} {xs:List Nat} {ps:List SfP} {zm:List (Int × Value)} {zr:List (Nat × Nat)} {xl:Nat} (hJ:SfJ m xs () ps) (hzw:zm.Perm (wl 1 xs.tail)) (hzr:zr=(ps.map SfP.rd).flatten) (hb:xs.length≤1000000) (hv:xs[xs.length-1]?=some xl):BkOk zm (zr++[(2*(xs.length-1),xl)]):=by
 have hnd:(zm.map (·.1)).Nodup:=((hzw.map (·.1)).nodup_iff).2 (wl_nodup _ _)
 have htl:xs.tail.length=xs.length-1:=List.length_tail
 have key:∀ y:Nat × Nat,(∃ j,xs[j]?=some y.2∧y.1=2*j)→(y.1=0∧y.2=0)∨(y.1≠0∧mGet zm ((y.1:Nat):Int)=some (num y.2)):=by
  rintro ⟨y1,y2⟩ ⟨j,h1,h2⟩
  simp only at h1 h2
  subst h2
  cases j with
  | zero =>
   left
   have h3:=hJ.x0
   rw [h1] at h3
   exact ⟨rfl,Option.some.inj h3⟩
  | succ j =>
   right
   refine ⟨by simp only;omega,mGet_mem hnd (hzw.symm.subset ?_)⟩
   have h3:xs.tail[j]?=some y2:=by rw [List.getElem?_tail];exact h1
   have h4:=wl_in _ 1 j y2 h3
   rwa [show 1+j=j+1 by omega] at h4
 refine ⟨fun y hy=>?_,fun y hy=>?_⟩
 ·obtain ⟨q,h1,h2⟩:=wl_mem _ 1 y (hzw.subset hy)
  exact ⟨q,by rw [h2,show 1+q=q+1 by omega],by omega⟩
 ·rcases List.mem_append.1 hy with hy | hy
  ·rw [hzr] at hy
   obtain ⟨l,hl,hy⟩:=List.mem_flatten.1 hy
   obtain ⟨p,hp,rfl⟩:=List.mem_map.1 hl
   exact key y (hJ.r p hp y hy)
  ·cases List.mem_singleton.1 hy
   exact key _ ⟨_,hv,rfl⟩
set_option maxHeartbeats 8000000 in
theorem sfree_tr {L:List HProp} {threads size times:Int} (hL:Dup (all L)) (ht:-9223372036854775808≤threads∧threads≤9223372036854775807) (hsz:-9223372036854775808≤size∧size≤9223372036854775807) (htm:-9223372036854775808≤times∧times≤9223372036854775807) :
  Tr Try.prog mT 8 [.int .i64 threads,.int .i64 size,.int .i64 times] L .idle fun v L' x'=>v=.bool true∧x'=.idle:=by
 have e6:=Int.emod_nonneg threads (by decide:(6:Int)≠0)
 have e6':=Int.emod_lt_of_pos threads (by decide:(0:Int)<6)
 obtain ⟨nt,hnt⟩:∃ m:Nat,2+threads%6=m:=⟨(2+threads%6).toNat,by omega⟩
 have hnt0:IntKind.i64.wrap (2+threads%6)=nt:=by rw [hnt];exact wrap_i64 (by omega) (by omega)
 have hnt1:2≤nt:=by omega
 have hnt7:nt≤7:=by omega
 have e16:=Int.emod_nonneg size (by decide:(16:Int)≠0)
 have e16':=Int.emod_lt_of_pos size (by decide:(0:Int)<16)
 obtain ⟨n,hn⟩:∃ n:Nat,1+size%16=n:=⟨(1+size%16).toNat,by omega⟩
 have hw0:IntKind.i64.wrap (1+size%16)=n:=by rw [hn];exact wrap_i64 (by omega) (by omega)
 have h1:1≤n:=by omega
 have h2:n≤16:=by omega
 have e40:=Int.emod_nonneg times (by decide:(40:Int)≠0)
 have e40':=Int.emod_lt_of_pos times (by decide:(0:Int)<40)
 obtain ⟨tm,htm0⟩:∃ m:Nat,1+times%40=m:=⟨(1+times%40).toNat,by omega⟩
 have hw1:IntKind.i64.wrap (1+times%40)=tm:=by rw [htm0];exact wrap_i64 (by omega) (by omega)
 have htm40:tm≤40:=by omega
 refine tr_of_body Try.func8 rfl Try.ntmps8 (by simp) fun um Q _ hQ=>?_
 simp only [argE,Nat.zero_add,Nat.reduceAdd]
 repeat (first | (apply wo_mo;apply mo_box;exact rfl;exact trivial) | refine we_seq ?_ | (refine wR ?_;try simp only [oS]))
 rintro v' L' ⟨b4,rfl,rfl⟩
 refine wo_ent (arr b4 0 [.int .i64 size]::L) (ent_eq rfl) ?_
 repeat (first | (apply wo_mo;apply mo_box;exact rfl;exact trivial))
 rintro v' L' ⟨b5,rfl,rfl⟩
 refine wo_ent (arr b5 0 [.int .i64 times]::arr b4 0 [.int .i64 size]::L) (ent_eq rfl) ?_
 repeat (first | refine we_seq ?_ | (refine wR ?_;try simp only [oS]) | refine wo_nil ?_ | refine wA ?_)
 refine wo_call .nil trivial awake_tr ?_
 rintro v1 L1 x1 ⟨rfl,rfl,rfl⟩
 repeat (first | refine we_seq ?_ | (refine wR ?_;try simp only [oS]) | refine wo_nil ?_ | refine wM ?_ | (apply wo_po;apply mo_not;exact rfl;exact gY) | refine wF ?_ | refine we_skip ?_)
 refine wo_call (.cons rfl (.cons rfl .nil)) trivial (within_tr ht (by omega)) ?_
 rintro v1 L1 x1 ⟨rfl,rfl,rfl⟩
 repeat (first | (apply wo_po;apply mo_bin;exact rfl;exact rfl;apply bin_add;exact hnt0;exact trivial) | refine we_seq ?_ | (refine wR ?_;try simp only [oS]) | refine wo_nil ?_ | refine wA ?_ | refine wL ?_)
 refine wo_call (.cons rfl (.cons rfl .nil)) trivial (within_tr hsz (by omega)) ?_
 rintro v1 L1 x1 ⟨rfl,rfl,rfl⟩
 repeat (first | (apply wo_po;apply mo_bin;exact rfl;exact rfl;apply bin_add;exact hw0;exact trivial) | refine wS ?_ | refine we_seq ?_ | (refine wR ?_;try simp only [oS]) | refine wo_nil ?_ | refine wL ?_)
 refine wo_call (.cons rfl (.cons rfl .nil)) trivial (within_tr htm (by omega)) ?_
 rintro v1 L1 x1 ⟨rfl,rfl,rfl⟩
 repeat (first | (apply wo_po;apply mo_bin;exact rfl;exact rfl;apply bin_add;exact hw1;exact trivial) | refine wS ?_ | refine we_seq ?_ | (refine wR ?_;try simp only [oS]) | refine wo_nil ?_ | refine wL ?_)
 refine wo_call (.cons rfl (.cons rfl .nil)) trivial (filled_tr (n:=n) (v:=0) h2 (by omega)) ?_
 rintro fv L1 x1 ⟨rfl,rfl⟩
 refine wo_pure (of_has .here (vec_shape (by omega))) ?_
 rintro ⟨fa,fn,fc,rfl,hfn,_,hfz,hfy⟩
 obtain rfl:n=fn:=by simp [filledN] at hfn;omega
 skip
 refine wo_call (.cons rfl .nil) trivial (snew_tr h1 h2 filledN_len (filledN_lt h2 (by omega)) (rdsoV .here (by simp [filledN]) hfz hfy)) ?_
 rintro v1 L1 x1 ⟨r,rfl,rfl,rfl⟩
 repeat (first | (apply wo_mo;apply mo_alloc;exact trivial) | refine wM ?_ | (apply wo_po;apply mo_extract;exact rfl;exact rfl;exact gY))
 rintro v' L' ⟨b8,rfl,rfl⟩
 repeat (first | refine wS ?_ | (apply wo_mo;apply mo_make (n:=nt);exact rfl;exact rfl;exact rfl;omega;omega;exact trivial) | refine wneqF ?_ | refine we_seq ?_ | (refine wR ?_;try simp only [oS]) | refine wo_nil ?_ | refine wM ?_ | refine wA ?_ | refine wJ ?_ | refine wL ?_ | (apply wo_po;apply mo_bin;exact rfl;exact rfl;apply bin_eq;apply eql_ptr_nil;exact gY) | refine wF ?_ | refine we_skip ?_)
 rintro v' L' ⟨pb,rfl,rfl⟩
 repeat (first | (apply wo_mo;apply mo_alloc;exact trivial))
 rintro v' L' ⟨b10,rfl,rfl⟩
 repeat (first | refine wS ?_ | (apply wo_mo;apply mo_alloc;exact trivial) | refine we_seq ?_ | (refine wR ?_;try simp only [oS]) | refine wo_nil ?_ | refine wA ?_)
 rintro v' L' ⟨ib,rfl,rfl⟩
 refine wo_frz (b:=b4) (o:=0) (.there (.there (.there (.there (.there (.there (.there .here))))))) ?_
 refine wo_frz (b:=b5) (o:=0) (.there (.there (.there (.there (.there (.there (.there .here))))))) ?_
 refine wo_frz (b:=b8) (o:=0) (.there (.there (.there (.there (.there .here))))) ?_
 refine wo_frz (b:=b10) (o:=0) (.there (.there (.there (.there .here)))) ?_
 refine wo_star (wds (sAddr r) (n+1) [] (recF (filledN n 0) 0)::arr r 1 [.int .i64 (n:Nat)]::_) (fun h st=>wds_cut1 (s_apart r n) (by intro k hk;simp at hk) (Ent.star (.take (.there (.there (.there (.there (.there (.there .here)))))) .refl) st)) ?_
 refine wo_frz (b:=r) (o:=1) (.there .here) ?_
 refine wo_ent _ (.take (.there (.there (.there (.there (.there (.there .here)))))) (.take .here (.take .here (.take .here (.take .here (.take .here (.take .here (.take .here (.drop .refl))))))))) ?_
 repeat (first | refine wS ?_ | refine wo_nil ?_ | refine we_block ?_)
 let L5:List HProp:=fro r 1 [.int .i64 (n:Nat)]::wds (sAddr r) (n+1) [] (recF (filledN n 0) 0)::fro b10 0 [.slice (some ⟨pb,0,none⟩) nt nt]::fro b8 0 [.pointer (some ⟨r,0,none⟩)]::fro b5 0 [.int .i64 (tm:Nat)]::fro b4 0 [.int .i64 (n:Nat)]::L
 refine we_star ((sfOut b4 b5 b8 b10 pb nt L5).L (0,ib,.slice none 0 0,[])) (fun h st=>?_) ?_
 ·have s1:Star (arr ib 0 [.int .i64 (0:Nat)]::fro r 1 [.int .i64 (n:Nat)]::wds (sAddr r) (n+1) [] (recF (filledN n 0) 0)::fro b10 0 [.slice (some ⟨pb,0,none⟩) nt nt]::fro b8 0 [.pointer (some ⟨r,0,none⟩)]::fro b5 0 [.int .i64 (tm:Nat)]::fro b4 0 [.int .i64 (n:Nat)]::arr pb 0 (zeros nt [.pointer none])::L) h:=st
  rw [zeros_rep] at s1
  have s2:Star (all []::vec 1 (.slice none 0 0) []::_) h:=star_shut (M:=[]) (vec_nil s1)
  have s3:Star (all []::_) h:=star_shut (M:=[]) s2
  exact Ent.star (.take (.there (.there (.there .here))) (.take (.there (.there .here)) (.take .here (.take .here (.take (.there (.there (.there (.there (.there (.there .here)))))) .refl))))) s3
 refine we_loopN (sfOut b4 b5 b8 b10 pb nt L5) (fun i=>nt-i.1) (0,ib,.slice none 0 0,[]) ⟨Nat.zero_le _,rfl⟩ ⟨rfl,rfl,rfl,rfl,rfl,rfl,rfl,trivial⟩ .refl rfl ?_
 clear ib
 rintro ⟨i,ib,tv,ts⟩ ⟨hi,hts⟩
 dsimp only at hi hts
 simp only [sfOut]
 refine we_pure (of_has (.there .here) (vec_shape (by omega))) ?_
 rintro ⟨tva,tvn,tvc,rfl,htvn,_,htz,hty⟩
 have htvn:tvn=i:=by simp at htvn;omega
 subst htvn
 by_cases hlt:tvn<nt
 ·have hadd:IntKind.i64.wrap ((tvn:Nat)+1)=((tvn+1:Nat):Int):=(wrap_i64 (by omega) (by omega)).trans (by omega)
  have rb10:∀ {a b c d e:HProp},Rd (a::b::c::d::e::L5) b10 0 (.slice (some ⟨pb,0,none⟩) nt nt):=.there (.there (.there (.there (.there (.there (.there (Rd.fro (k:=0) rfl rfl)))))))
  repeat (first | (apply wo_po;apply mo_load;exact rfl;exact rb10;exact trivial) | (apply wo_mo;apply (mo_makeMap .u64);exact trivial) | refine wlssT ?_ | refine we_seq ?_ | (refine wR ?_;try simp only [oS]) | refine wo_nil ?_ | refine wM ?_ | refine wL ?_ | refine wT ?_ | refine we_skip ?_ | refine we_block ?_)
  rintro v' L' ⟨mb,rfl,rfl⟩
  repeat (first | (apply wo_po;apply mo_build (pv:=[(0,_)]);exact rfl;exact .cons rfl .nil;exact rfl;exact trivial) | (apply wo_mo;apply mo_box;exact rfl;exact trivial))
  rintro v' L' ⟨bk,rfl,rfl⟩
  have hlenp:(ptF ts++List.replicate (nt-tvn) (Value.pointer none)).length=nt:=by rw [List.length_append,List.length_replicate];simp only [ptF,List.length_map];omega
  repeat (first | (apply wo_po;apply mo_index1;exact rfl;exact rfl;omega;exact trivial) | (apply wo_pm;apply mo_store;exact rfl;exact rfl;exact rfl;apply Wt.row (k:=tvn) (o:=0) (vs:=ptF ts++List.replicate (nt-tvn) (.pointer none));(rw [hlenp];exact hlt);omega;exact (.there (.there (.there (.there (.there (.there .here))))));exact trivial) | (refine wR ?_;try simp only [oS]) | refine wo_nil ?_ | refine wM ?_)
  rw [ptF_set (y:=(ib,bk,mb)) hts hlt]
  repeat (first | (apply wo_po;apply mo_makeFunc (first:=[]) (cap:=[_,_,_,_,_]) (vf:=[]);exact .nil;exact .cons rfl (.cons rfl (.cons rfl (.cons rfl (.cons rfl .nil))));exact trivial))
  repeat (first | (apply wo_mo;apply mo_buildSlice (sz:=1) (vs:=[sfF b5 ib b8 b4 b10]);exact rfl;exact .cons rfl .nil;exact rfl;(intro v hv;cases (List.mem_singleton.1 hv);exact rfl);omega;exact trivial))
  rintro v' L' ⟨nb2,rfl,rfl⟩
  repeat (first | (apply wo_mo;apply mo_append (sz:=1) (new:=[sfF b5 ib b8 b4 b10]);exact rfl;exact rfl;exact rfl;exact rfl;exact (.there (.there (.there (.there .here))));exact rfl;exact .inr ⟨_,_,rfl,Rds.all .here⟩;(intro v hv;cases (List.mem_singleton.1 hv);exact rfl);(simp only [sliceLen];omega);exact trivial))
  rintro tv' L' rfl
  repeat (first | (apply wo_mo;apply mo_alloc;exact trivial) | refine we_seq ?_ | (refine wR ?_;try simp only [oS]) | refine wo_nil ?_ | refine wA ?_ | refine wL ?_)
  rintro v' L' ⟨ib2,rfl,rfl⟩
  refine wo_frz (b:=ib) (o:=0) (.there (.there (.there (.there (.there .here))))) ?_
  repeat (first | refine wS ?_ | (refine wR ?_;try simp only [oS]) | refine wo_nil ?_ | refine wL ?_ | refine wadd ?_)
  refine at_roundS (B:=mT) (I:=sfOut b4 b5 b8 b10 pb nt L5) (R:=fun q=>nt-q.1<nt-tvn) (tvn+1,ib2,tv',ts++[(ib,bk,mb)]) (by show nt-(tvn+1)<nt-tvn;omega) ⟨by show tvn+1≤nt;omega,by simp [hts]⟩ ⟨rfl,rfl,rfl,rfl,rfl,rfl,rfl,trivial⟩ (fun hp st=>?_) rfl
  have s0:Star (fro ib 0 [.int .i64 (tvn:Nat)]::arr ib2 0 [.int .i64 ((tvn+1:Nat):Int)]::vec 1 tv' (ts.map (fun y=>sfF b5 y.1 b8 b4 b10)++[sfF b5 ib b8 b4 b10])::arr nb2 0 _::arr bk 0 [.map (some mb),.bool false,.slice none 0 0,.bool false]::mapC .u64 mb []::all (bxF ts)::all (bkF ts)::arr pb 0 (ptF (ts++[(ib,bk,mb)])++List.replicate (nt-(tvn+1)) (.pointer none))::L5) hp:=st
  have s1:Star (fro ib 0 [.int .i64 (tvn:Nat)]::all (bxF ts)::_) hp:=Ent.star (.take .here (.take (.there (.there (.there (.there (.there .here))))) .refl)) s0
  have s3:Star (vec 2 (.slice none 0 0) (([]:List (Nat × Nat)).map bkE).flatten::_) hp:=vec_nil (star_push s1)
  have s4:Star (sfB (sfP0 (ib,bk,mb))::_) hp:=sfB_shut (Ent.star (.take (.there (.there (.there (.there (.there (.there .here)))))) (.take (.there (.there (.there (.there (.there .here))))) (.take .here .refl))) s3)
  have s5:Star (sfB (sfP0 (ib,bk,mb))::all (bkF ts)::_) hp:=Ent.star (.take .here (.take (.there (.there (.there (.there .here)))) .refl)) s4
  have s6:=star_push s5
  have e1:(ts++[(ib,bk,mb)]).map (fun y=>sfF b5 y.1 b8 b4 b10)=ts.map (fun y=>sfF b5 y.1 b8 b4 b10)++[sfF b5 ib b8 b4 b10]:=by rw [List.map_append];rfl
  have e2:bkF (ts++[(ib,bk,mb)])=bkF ts++[sfB (sfP0 (ib,bk,mb))]:=by unfold bkF;rw [List.map_append];rfl
  show Star (_::vec 1 tv' ((ts++[(ib,bk,mb)]).map fun y=>sfF b5 y.1 b8 b4 b10)::all (bxF (ts++[(ib,bk,mb)]))::all (bkF (ts++[(ib,bk,mb)]))::_) hp
  rw [e1,e2,bxF_snoc,hts]
  exact Ent.star (.take (.there (.there .here)) (.take (.there (.there .here)) (.take (.there .here) (.take .here (.drop .refl))))) s6
 obtain rfl:nt=tvn:=by omega
 have hpt:ptF ts++List.replicate (nt-nt) (Value.pointer none)=ptF ts:=by simp
 rw [hpt]
 repeat (first | refine wlssF ?_ | refine we_seq ?_ | (refine wR ?_;try simp only [oS]) | refine wo_nil ?_ | refine wM ?_ | refine wL ?_ | refine wF ?_ | refine we_exit ?_)
 refine wo_frz (b:=pb) (o:=0) (.there (.there (.there (.there .here)))) ?_
 let RoS:HProp:=all (sfS b5 b8 b4 b10 pb r n nt tm ts L)
 have hRoS:Dup RoS:=dup_all (by
  intro c hc
  simp only [sfS,List.mem_cons,List.not_mem_nil,or_false] at hc
  rcases hc with rfl | rfl | rfl | rfl | rfl | rfl | rfl
  all_goals first | exact dup_fro | exact hL)
 obtain ⟨hI0,hφ0⟩:=sf_I0 (n:=n) (ts:=ts) (times:=tm) h2 (by omega) htm40
 refine wo_star (((sfG n).g (sAddr r) (n+1) []).U sfS0::all ((sfTs b5 b8 b4 b10 r n tm RoS ts).map ThrT.M)::RoS::vec 1 (.slice tva nt tvc) (ts.map fun y=>sfF b5 y.1 b8 b4 b10)::[]) (fun h st=>?_) ?_
 ·have s1:=star_tail (M:=[_,_,_,_,_,_,_,_,_,_,_]) st
  have s2:Star (RoS::_) h:=star_shut (M:=[_,_,_,_,_,_,_]) (Ent.star (.take (.there (.there (.there (.there (.there (.there .here)))))) (.take (.there (.there (.there (.there (.there (.there (.there (.there (.there .here))))))))) (.take (.there (.there (.there (.there (.there (.there (.there (.there .here)))))))) (.take (.there (.there (.there (.there (.there (.there (.there (.there .here)))))))) (.take (.there (.there (.there (.there (.there (.there (.there .here))))))) (.take (.there .here) (.take .here .refl))))))) s1)
  have s4:=dealF hRoS (Ent.star (.take .here (.take (.there (.there .here)) (.take (.there (.there .here)) .refl))) s2)
  rw [sfTs_M]
  have s5:Star (wds (sAddr r) (n+1) [] (recF (filledN n 0) 0)::all (ts.mapIdx (sfTc RoS))::RoS::vec 1 (.slice tva nt tvc) (ts.map fun y=>sfF b5 y.1 b8 b4 b10)::[]) h:=Ent.star (.take (.there (.there (.there (.there .here)))) (.take .here (.take .here (.drop (.take .here .refl))))) s4
  have s6:Star (wds (sAddr r) (n+1) [] (slfW (sfD n) sfS0)::_) h:=star_map s5 (wds_congr fun j hj=>?_) fun _ z=>z
  ·refine star_map s6 (fun h' z=>?_) fun _ z=>z
   obtain ⟨g1,g2,sp,c1,_⟩:=star_one z
   exact ⟨g1,g2,sp,c1,star_one trivial⟩
  ·cases j with
   | zero=>rfl
   | succ j =>
    have e0:slfW (sfD n) sfS0 (1+j)=j:=slfW_succ (D:=sfD n) (s:=sfS0) (i:=j)
    rw [Nat.add_comm j 1,recF_succ,e0]
    have:(filledN n 0)[j]?=some (0*100+j):=by simp [filledN,show j<n by omega]
    rw [List.getD_eq_getElem?_getD,this]
    simp
 have hlts:(sfTs b5 b8 b4 b10 r n tm RoS ts).length=nt:=by rw [← hts];simp [sfTs]
 refine wo_call (.cons rfl .nil) trivial (free_tr (g:=(sfG n).g (sAddr r) (n+1) []) (fd:=sfFd r n h1 h2 22400 (by omega) (sfQs tm ts)) (ts:=sfTs b5 b8 b4 b10 r n tm RoS ts) (s0:=sfS0) (fun _ h=>cut_own2 (fun _ z=>z) h) sfTs_q ⟨0,hI0,Nat.le_trans (Nat.le_of_eq (Nat.zero_add _)) hφ0,rfl⟩ hφ0 (fun _ _ z=>z)
  (fun t ht=>by obtain ⟨i,y,hy,rfl⟩:=sfTs_at ht;exact sf_free (sfTs_ro hts hnt7 htm40 hy) h1 h2) (by omega) (by omega) (by rw [sfTs_fv];exact rdsoV (.there .here) (by simp [hts]) htz hty)) ?_
 rintro v1 L1 x1 ⟨s,qs,⟨m,hI⟩,hpn,hql,rfl,rfl,rfl⟩
 obtain ⟨S,hS⟩:∃ S:SlfS Unit,S=(show SlfS Unit from s):=⟨_,rfl⟩
 obtain ⟨Q,hqQ⟩:∃ Q:List (SlfQ SfP),Q=(show List (SlfQ SfP) from qs):=⟨_,rfl⟩
 have hI1:SfI n 22400 ((sfQs tm ts).map sfK) S Q m:=by rw [hS,hqQ];exact hI
 obtain ⟨hv1,xl,hv2,hv3⟩:=sf_end hI1 (by rw [hqQ];exact hpn)
 have hQl:Q.length=nt:=by rw [← hlts];rw [hqQ];exact hql
 have hJ:SfJ m S.xs () (Q.map (·.p)):=hI1.I.J
 have hmN:m≤22400:=Nat.le_trans (Nat.le_add_right _ _) hI1.N
 have hxs1:=hI1.I.lo
 have hxs2:=hI1.I.hi
 refine wo_star (all [wds (sAddr r) (n+1) [] (slfW (sfD n) S),RoS]::all (Q.map fun q=>all [sfB q.p])::RoS::[]) (fun h st=>?_) ?_
 ·have e1:((sfG n).g (sAddr r) (n+1) []).U s=all [wds (sAddr r) (n+1) [] (slfW (sfD n) S),fun _=>True]:=by rw [hS];rfl
  have e2:qs.map ((sfG n).g (sAddr r) (n+1) []).Fin=Q.map fun q=>all [sfB q.p]:=by rw [hqQ];rfl
  rw [e1,e2] at st
  have s2:Star (wds (sAddr r) (n+1) [] (slfW (sfD n) S)::(fun _=>True)::_) h:=star_open (M:=[_,_]) st
  have s3:=hRoS _ _ (Ent.star (.take (.there (.there (.there .here))) (.take .here (.drop (.take .here (.drop .refl))))) s2)
  exact star_shut (M:=[_,_]) (Ent.star (.take (.there (.there .here)) (.take .here (.take (.there .here) (.take .here .refl)))) s3)
 have hqk:∀ (k:Nat) q,Q[k]?=some q→∃ y,ts[k]?=some y∧q.p.bk=y.2.1∧q.p.mb=y.2.2:=fun k q h=>by
  have h3:(Q.map sfK)[k]?=some (sfK q):=by rw [List.getElem?_map,h];rfl
  rw [hI1.k] at h3
  have h4:=(List.getElem?_eq_some_iff.1 h).1
  have h5:ts[k]?=some (ts[k]'(by omega)):=List.getElem?_eq_getElem (by omega)
  refine ⟨_,h5,?_⟩
  unfold sfQs at h3
  rw [List.getElem?_map,List.getElem?_mapIdx,h5] at h3
  have h6:=Option.some.inj h3
  exact ⟨(congrArg Prod.fst h6).symm,(congrArg Prod.snd h6).symm⟩
 obtain ⟨R,hR⟩:∃ R:List HProp,R=all [wds (sAddr r) (n+1) [] (slfW (sfD n) S),RoS]::all (Q.map fun q=>all [sfB q.p])::RoS::[]:=⟨_,rfl⟩
 rw [← hR]
 repeat (first | (apply wo_mo;apply (mo_makeMap .u64);exact trivial) | refine wneqF ?_ | refine we_seq ?_ | (refine wR ?_;try simp only [oS]) | refine wo_nil ?_ | refine wF ?_ | refine we_skip ?_)
 rintro v' L' ⟨mbA,rfl,rfl⟩
 repeat (first | (apply wo_po;apply mo_build (pv:=[(0,_)]);exact rfl;exact .cons rfl .nil;exact rfl;exact trivial) | (apply wo_mo;apply mo_box;exact rfl;exact trivial))
 rintro v' L' ⟨bkA,rfl,rfl⟩
 repeat (first | refine we_seq ?_ | (refine wR ?_;try simp only [oS]) | refine wo_nil ?_ | refine wA ?_ | refine we_block ?_)
 refine we_star ((mgInv nt b8 b10 bkA mbA Q R).L (0,[],[],.slice none 0 0)) (fun h st=>?_) ?_
 ·have s0:Star (arr bkA 0 [.map (some mbA),.bool false,.slice none 0 0,.bool false]::mapC .u64 mbA []::R) h:=st
  exact Ent.star (.take (.there (.there .here)) (.take (.there .here) (.take .here .refl))) (vec_nil (sz:=2) s0)
 refine we_loopN (mgInv nt b8 b10 bkA mbA Q R) (fun i=>nt-i.1) (0,[],[],.slice none 0 0) ⟨Nat.zero_le _,List.Perm.refl _,rfl⟩ ⟨rfl,rfl,rfl,rfl,rfl,trivial⟩ .refl rfl ?_
 rintro ⟨k,zm,zr,rv⟩ ⟨hk,hzm,hzr⟩
 dsimp only at hk hzm hzr
 simp only [mgInv]
 by_cases hlt:k<nt
 ·obtain ⟨q,hq⟩:∃ q,Q[k]?=some q:=⟨Q[k],List.getElem?_eq_getElem (by omega)⟩
  obtain ⟨y,hy1,hy2,hy3⟩:=hqk k q hq
  obtain ⟨ops,st,⟨bk,mb,wr,tw,rd,bad⟩⟩:=q
  simp only at hy2 hy3
  have hpm:(⟨bk,mb,wr,tw,rd,bad⟩:SfP)∈Q.map (·.p):=List.mem_map.2 ⟨_,List.mem_of_getElem? hq,rfl⟩
  obtain ⟨o1,o2⟩:=hJ.ok _ hpm
  simp only at o1 o2
  subst o1
  subst o2
  subst hy2
  subst hy3
  have hMk:(Q.map fun q=>all [sfB q.p])[k]?=some (all [sfB ⟨y.2.1,y.2.2,wr,false,rd,false⟩]):=by rw [List.getElem?_map,hq];rfl
  obtain ⟨Ms,hMs⟩:∃ Ms:List HProp,Ms=(Q.map fun q=>all [sfB q.p]).eraseIdx k:=⟨_,rfl⟩
  have hA:((Q.take (k+1)).map (·.p.wr)).flatten=((Q.take k).map (·.p.wr)).flatten++wr:=by
   rw [List.take_add_one,hq];simp
  obtain ⟨A,hAe⟩:∃ A,((Q.take k).map (·.p.wr)).flatten=A:=⟨_,rfl⟩
  rw [hAe] at hzm hA
  have hwl:∀ e∈A++wr,e∈wl 1 S.xs.tail:=fun e he=>by
   rw [← hA] at he
   refine hJ.w.subset ?_
   obtain ⟨l,hl,he⟩:=List.mem_flatten.1 he
   obtain ⟨q',hq',rfl⟩:=List.mem_map.1 hl
   exact List.mem_flatten.2 ⟨q'.p.wr,by rw [List.map_map];exact List.mem_map.2 ⟨q',List.mem_of_mem_take hq',rfl⟩,he⟩
  have hnd:((A++wr).map (·.1)).Nodup:=by
   have h3:(((Q.map (·.p)).map SfP.wr).flatten.map (·.1)).Nodup:=((hJ.w.map (·.1)).nodup_iff).2 (wl_nodup _ _)
   have h4:(A++wr).Sublist (((Q.map (·.p)).map SfP.wr).flatten):=by
    have e:((Q.map (·.p)).map SfP.wr).flatten=((Q.take (k+1)).map (·.p.wr)).flatten++((Q.drop (k+1)).map (·.p.wr)).flatten:=by
     rw [← List.flatten_append,← List.map_append,List.take_append_drop,List.map_map];rfl
    rw [e,hA]
    exact List.sublist_append_left _ _
   exact h3.sublist (h4.map _)
  refine we_star ((fun h=>∃ rv:Value,all [mapC .u64 y.2.2 wr,arr y.2.1 0 [.map (some y.2.2),.bool false,rv,.bool false],vec 2 rv (rd.map bkE).flatten] h)::mapC .u64 mbA zm::arr bkA 0 [.map (some mbA),.bool false,rv,.bool false]::vec 2 rv (zr.map bkE).flatten::all [wds (sAddr r) (n+1) [] (slfW (sfD n) S),RoS]::all Ms::RoS::[]) (fun h st=>?_) ?_
  ·rw [hR] at st
   have s1:Star (all (Q.map fun q=>all [sfB q.p])::_) h:=Ent.star (.take (.there (.there (.there (.there .here)))) .refl) st
   have s2:=star_pick hMk s1
   rw [← hMs] at s2
   have s3:Star (sfB ⟨y.2.1,y.2.2,wr,false,rd,false⟩::_) h:=star_open (M:=[_]) s2
   exact sfB_open (Ent.star (.take .here (.take (.there .here) (.take (.there .here) (.take (.there .here) (.take (.there .here) (.take .here .refl)))))) s3)
  refine we_ex .here fun rvk=>?_
  refine we_star (mapC .u64 y.2.2 wr::arr y.2.1 0 [.map (some y.2.2),.bool false,rvk,.bool false]::vec 2 rvk (rd.map bkE).flatten::mapC .u64 mbA zm::arr bkA 0 [.map (some mbA),.bool false,rv,.bool false]::vec 2 rv (zr.map bkE).flatten::all [wds (sAddr r) (n+1) [] (slfW (sfD n) S),RoS]::all Ms::RoS::[]) (fun h st=>star_open (M:=[_,_,_]) st) ?_
  have hpy:(ptF ts)[k]?=some (.pointer (some ⟨y.2.1,0,none⟩)):=by unfold ptF;rw [List.getElem?_map,hy1];rfl
  have rb10:∀ {a b c d e f g i:HProp},Rd (a::b::c::d::e::f::g::i::RoS::[]) b10 0 (.slice (some ⟨pb,0,none⟩) nt nt):=.there (.there (.there (.there (.there (.there (.there (.there (rd_all (.there (.there (.there (.there (Rd.fro (k:=0) rfl rfl)))))))))))))
  have rpb:∀ {a b c d e f g i:HProp},Rd (a::b::c::d::e::f::g::i::RoS::[]) pb (0+k) (.pointer (some ⟨y.2.1,0,none⟩)):=.there (.there (.there (.there (.there (.there (.there (.there (rd_all (.there (.there (.there (.there (.there (Rd.fro (k:=k) hpy rfl))))))))))))))
  repeat (first | (apply wo_po;apply mo_load;exact rfl;(first | exact rb10 | exact rpb);exact trivial) | (apply wo_po;apply mo_index1;exact rfl;exact rfl;omega;exact trivial) | (apply wo_mo;apply mo_rangeD (ki:=.u64);exact rfl;exact .here;exact trivial) | refine wlssT ?_ | refine we_seq ?_ | (refine wR ?_;try simp only [oS]) | refine wo_nil ?_ | refine wM ?_ | refine wN ?_ | refine wD ?_ | refine wL ?_ | refine wT ?_ | refine we_skip ?_ | refine we_block ?_)
  rintro v' L' ⟨rr,rfl,rfl⟩
  repeat (first | refine wo_nil ?_ | refine we_block ?_)
  refine we_loopN (mrInv nt b8 b10 bkA mbA k rr y.2.2 wr A (arr y.2.1 0 [.map (some y.2.2),.bool false,rvk,.bool false]) (vec 2 rvk (rd.map bkE).flatten) (arr bkA 0 [.map (some mbA),.bool false,rv,.bool false]::vec 2 rv (zr.map bkE).flatten::all [wds (sAddr r) (n+1) [] (slfW (sfD n) S),RoS]::all Ms::RoS::[])) (fun i=>i.2.1.length) (zm,wr,none) ⟨[],List.Perm.refl _,by rw [List.append_nil];exact hzm⟩ ⟨rfl,rfl,rfl,rfl,rfl,rfl,trivial⟩ .refl rfl ?_
  rintro ⟨zm2,todo,cur⟩ ⟨B,hB1,hB2⟩
  dsimp only at hB1 hB2
  simp only [mrInv]
  repeat (first | (apply wo_mo;apply mo_nextD (ki:=.u64);exact rfl;exact .here;exact trivial) | refine we_seq ?_ | (refine wR ?_;try simp only [oS]))
  rintro v' L' (⟨rfl,htodo,rfl⟩ | ⟨e,todo',hperm,rfl,rfl⟩)
  ·subst htodo
   rw [List.append_nil] at hB1
   have hzm2:zm2.Perm (A++wr):=hB2.trans (hB1.append_left A)
   refine wo_star (mapC .u64 y.2.2 wr::arr y.2.1 0 [.map (some y.2.2),.bool false,rvk,.bool false]::vec 2 rvk (rd.map bkE).flatten::mapC .u64 mbA zm2::arr bkA 0 [.map (some mbA),.bool false,rv,.bool false]::vec 2 rv (zr.map bkE).flatten::all [wds (sAddr r) (n+1) [] (slfW (sfD n) S),RoS]::all Ms::RoS::[]) (fun h st=>ranD_map st) ?_
   refine wo_pure (of_has (.there (.there (.there (.there (.there .here))))) (vec_shape (by omega))) ?_
   rintro ⟨va,vn,vc,rfl,hvn,_⟩
   refine wo_pure (of_has (.there (.there .here)) (vec_shape (by omega))) ?_
   rintro ⟨ka,kn,kc,rfl,hkn,_,hkz,hky⟩
   have hvn':vn=zr.length:=by rw [flat_len (k:=2) (fun _=>rfl)] at hvn;omega
   have hkn':kn=rd.length:=by rw [flat_len (k:=2) (fun _=>rfl)] at hkn;omega
   repeat (first | (apply wo_po;apply mo_load;exact rfl;(first | exact rb10 | exact rpb | exact .there (.row0 rfl));exact gY) | (apply wo_po;apply mo_index1;exact rfl;exact rfl;omega;exact gY) | refine wS ?_ | refine we_seq ?_ | (refine wR ?_;try simp only [oS]) | refine wo_nil ?_ | refine wM ?_ | refine wJ ?_ | refine wN ?_ | refine wD ?_ | (apply wo_po;apply mo_extract;exact rfl;exact rfl;exact gY) | refine wL ?_ | refine wF ?_ | refine we_exit ?_)
   refine we_draw (List.range' 0 16) (by kernel_rfl) ?_
   repeat (first | (apply ap_read;exact rfl;exact rfl;exact trivial;apply mo_load;exact rfl;(first | exact rb10 | exact rpb | exact .there (.row0 rfl) | exact .there (.there (.there (.there (.row0 rfl)))))) | (apply ap_pure;exact rfl;exact rfl;exact trivial;intro L;apply mo_index1;exact rfl;exact rfl;omega) | refine aM ?_ | refine aN ?_ | refine aD ?_)
   have hrl:((Q.map (·.p.rd)).flatten).length≤m:=by
    have h3:=hJ.len
    rw [List.map_map] at h3
    rw [List.length_flatten,List.map_map]
    exact h3
   have hzl:zr.length+rd.length≤22400:=by
    have e:(Q.map (·.p.rd)).flatten=((Q.take k).map (·.p.rd)).flatten++(rd++((Q.drop (k+1)).map (·.p.rd)).flatten):=by
     have h3:Q.drop k=⟨ops,st,⟨y.2.1,y.2.2,wr,false,rd,false⟩⟩::Q.drop (k+1):=by
      rw [List.drop_eq_getElem_cons (by omega)]
      congr 1
      exact (List.getElem?_eq_some_iff.1 hq).2
     have h4:Q=Q.take k++Q.drop k:=(List.take_append_drop k Q).symm
     rw [h3] at h4
     have h5:=congrArg (fun l:List (SlfQ SfP)=>(l.map (·.p.rd)).flatten) h4
     simp only [List.map_append,List.map_cons,List.flatten_append,List.flatten_cons] at h5
     exact h5
    rw [e,← hzr,List.length_append,List.length_append] at hrl
    omega
   have hsrc:∀ {c0 c1:HProp} {M:List HProp},kn=0∨∃ xbb xo',ka=some ⟨xbb,xo',none⟩∧Rds (c0::c1::vec 2 (.slice ka kn kc) (rd.map bkE).flatten::M) xbb xo' (rd.map bkE).flatten:=by
    intro c0 c1 M
    cases ka with
    | none=>exact .inl (hkz rfl)
    | some z =>
     obtain ⟨kb,ko,ksp⟩:=z
     cases hky _ rfl
     exact .inr ⟨kb,ko,rfl,fun i v hi=>rd_vec (.there (.there .here)) hi⟩
   refine ap_loud rfl rfl rfl rfl rfl trivial (mo_append (sz:=2) (new:=(rd.map bkE).flatten) rfl rfl rfl rfl (.there (.there (.there (.there (.there .here))))) (by rw [flat_len (k:=2) (fun _=>rfl)];omega) hsrc (fun w hw=>by
    obtain ⟨l,hl,hw⟩:=List.mem_flatten.1 hw
    obtain ⟨z,_,rfl⟩:=List.mem_map.1 hl
    simp [bkE] at hw
    rcases hw with rfl | rfl <;> rfl) (by simp only [sliceLen];omega)) ?_
   rintro v' L' rfl
   refine ap_know (of_has .here (vec_shape (by omega))) ?_
   rintro ⟨ua,un,uc,rfl,_⟩
   repeat (first | refine aN ?_ | refine aD ?_)
   refine ap_loud rfl rfl rfl rfl rfl trivial (mo_store rfl rfl rfl (Wt.row (k:=2) (o:=0) (vs:=[.map (some mbA),.bool false,.slice va vn vc,.bool false]) (by show 2<4;omega) rfl (.there (.there (.there (.there (.there .here))))))) ?_
   rintro v' L' ⟨rfl,rfl⟩
   repeat (first | refine ap_end ?_)
   have hinc:IntKind.i64.wrap (((k:Nat):Int)+1)=((k+1:Nat):Int):=(wrap_i64 (by omega) (by omega)).trans (by omega)
   repeat (first | (apply wo_po;apply mo_bin;exact rfl;exact rfl;apply bin_add;exact hinc;exact trivial) | (refine wR ?_;try simp only [oS]) | refine wo_nil ?_ | refine wM ?_ | refine wA ?_)
   refine at_roundS (B:=mT) (I:=mgInv nt b8 b10 bkA mbA Q R) (R:=fun z=>nt-z.1<nt-k) (k+1,zm2,zr++rd,.slice ua un uc) (by show nt-(k+1)<nt-k;omega) ⟨by show k+1≤nt;omega,by rw [hA];exact hzm2,by show zr++rd=((Q.take (k+1)).map (·.p.rd)).flatten;rw [List.take_add_one,hq,hzr];simp⟩ ⟨rfl,rfl,rfl,rfl,rfl,trivial⟩ (fun hp st=>?_) rfl
   have hset:(Q.map fun q=>all [sfB q.p]).set k (all [sfB ⟨y.2.1,y.2.2,wr,false,rd,false⟩])=Q.map fun q=>all [sfB q.p]:=by
    apply List.ext_getElem?
    intro i
    rw [List.getElem?_set]
    split
    ·rename_i h;subst h
     rw [hMk,if_pos (List.getElem?_eq_some_iff.1 hMk).1]
    ·rfl
   have z1:Star (sfB ⟨y.2.1,y.2.2,wr,false,rd,false⟩::_) hp:=sfB_shut (Ent.star (.take (.there .here) (.take (.there .here) (.take (.there .here) .refl))) st)
   have z2:Star (all [sfB ⟨y.2.1,y.2.2,wr,false,rd,false⟩]::_) hp:=star_shut (M:=[_]) z1
   have z3:Star (all [sfB ⟨y.2.1,y.2.2,wr,false,rd,false⟩]::all Ms::_) hp:=Ent.star (.take .here (.take (.there (.there (.there (.there .here)))) .refl)) z2
   rw [hMs] at z3
   have z4:=star_put (by rw [List.length_map];omega) z3
   rw [hset] at z4
   have e4:((zr++rd).map bkE).flatten=(zr.map bkE).flatten++(rd.map bkE).flatten:=by rw [List.map_append,List.flatten_append]
   show Star (_::_::vec 2 (.slice ua un uc) ((zr++rd).map bkE).flatten::R) hp
   rw [hR,e4]
   exact Ent.star (.take (.there (.there .here)) (.take (.there (.there .here)) (.take (.there .here) (.take (.there .here) (.take .here .refl))))) z4
  ·have hB3:(B++e::todo').Perm wr:=(hperm.append_left B).trans hB1
   have hew:e∈wr:=hB3.subset (by simp)
   have hnew:∀ e'∈zm2,e'.1≠e.1:=fun e' he' heq=>by
    have h3:(A++(B++e::todo')).Perm (A++wr):=hB3.append_left A
    have h4:=((h3.map (·.1)).nodup_iff).2 hnd
    rw [← List.append_assoc,List.map_append,List.nodup_append] at h4
    exact h4.2.2 e'.1 (List.mem_map_of_mem (hB2.subset he')) e.1 (by simp) heq
   obtain ⟨jq,xq,hjq1,hjq2⟩:=wl_memx _ 1 e (hwl e (List.mem_append_right _ hew))
   subst hjq2
   obtain ⟨vq,hvq⟩:∃ v:Nat,2*(1+jq)=v:=⟨_,rfl⟩
   rw [hvq] at hperm hB3 hew hnew ⊢
   have hget:mGet wr ((vq:Nat):Int)=some (num xq):=mGet_mem (hnd.sublist ((List.sublist_append_right _ _).map _)) hew
   have hlen:todo'.length<todo.length:=by rw [← hperm.length_eq];simp
   obtain ⟨g1,g2⟩:=mGet_not hnew
   repeat (first | (apply wo_po;apply mo_entryD (ki:=.u64);exact rfl;exact .here;exact trivial) | (apply wo_po;apply mo_load;exact rfl;(first | exact rb10 | exact rpb | exact .there (.row0 rfl));exact trivial) | (apply wo_po;apply mo_index1;exact rfl;exact rfl;omega;exact trivial) | (apply wo_po;apply mo_lookupD (ki:=.u64) (k:=((vq:Nat):Int)) (l:=wr);exact rfl;exact rfl;exact .here;exact trivial) | refine we_seq ?_ | (refine wR ?_;try simp only [oS]) | refine wo_nil ?_ | refine wM ?_ | refine wA ?_ | refine wN ?_ | refine wD ?_ | (apply wo_po;apply mo_extract;exact rfl;exact rfl;exact gY) | refine wT ?_ | refine we_skip ?_ | refine we_block ?_)
   rw [hget]
   refine wo_ent _ (.take (.there (.there (.there .here))) (.take (.there (.there (.there .here))) .refl)) ?_
   refine wo_call (.cons rfl (.cons rfl (.cons rfl .nil))) trivial (writes_tr (v:=vq) (y:=xq)) ?_
   rintro w1 L1 x1 ⟨rfl,rfl⟩
   rw [g1,g2]
   repeat (first | refine wo_nil ?_)
   refine at_round (B:=mT) (I:=mrInv nt b8 b10 bkA mbA k rr y.2.2 wr A (arr y.2.1 0 [.map (some y.2.2),.bool false,rvk,.bool false]) (vec 2 rvk (rd.map bkE).flatten) (arr bkA 0 [.map (some mbA),.bool false,rv,.bool false]::vec 2 rv (zr.map bkE).flatten::all [wds (sAddr r) (n+1) [] (slfW (sfD n) S),RoS]::all Ms::RoS::[])) (R:=fun z=>z.2.1.length<todo.length) (zm2++[(((vq:Nat):Int),num xq)],todo',some (((vq:Nat):Int),num xq)) hlen ⟨B++[(((vq:Nat):Int),num xq)],by rw [List.append_assoc];exact hB3,by rw [← List.append_assoc];exact hB2.append_right _⟩ ⟨rfl,rfl,rfl,rfl,rfl,rfl,trivial⟩ (.take (.there (.there .here)) (.take (.there (.there .here)) (.take (.there (.there .here)) .refl))) rfl
 obtain rfl:k=nt:=by omega
 rw [List.take_of_length_le (by omega)] at hzm hzr
 have hzw:zm.Perm (wl 1 S.xs.tail):=hzm.trans (by have h3:=hJ.w;rw [List.map_map] at h3;exact h3)
 have hzl:zm.length=S.xs.length-1:=by rw [hzw.length_eq,wl_len,List.length_tail]
 rw [hR]
 have r8:∀ {a b c d e:HProp},Rd (a::b::c::d::e::RoS::[]) b8 0 (.pointer (some ⟨r,0,none⟩)):=.there (.there (.there (.there (.there (rd_all (.there (.there (Rd.fro (k:=0) rfl rfl))))))))
 repeat (first | (apply wo_po;apply mo_load;exact rfl;exact r8;exact trivial) | refine wlssF ?_ | refine we_seq ?_ | (refine wR ?_;try simp only [oS]) | refine wo_nil ?_ | refine wM ?_ | refine wF ?_ | refine we_exit ?_)
 have hxl:xl≤100000:=hJ.xb xl (List.mem_of_getElem? hv2)
 have hev:S.ver%2=0:=by omega
 refine wo_star (all [wds (sAddr r) (n+1) [] (recF (filledN n xl) S.ver),RoS]::mapC .u64 mbA zm::arr bkA 0 [.map (some mbA),.bool false,rv,.bool false]::vec 2 rv (zr.map bkE).flatten::RoS::[]) (fun h st=>?_) ?_
 ·have z1:Star (all [wds (sAddr r) (n+1) [] (slfW (sfD n) S),RoS]::mapC .u64 mbA zm::arr bkA 0 [.map (some mbA),.bool false,rv,.bool false]::vec 2 rv (zr.map bkE).flatten::RoS::[]) h:=Ent.star (.take (.there (.there (.there .here))) (.take .here (.take .here (.take .here (.drop .refl))))) st
  have z2:Star (wds (sAddr r) (n+1) [] (slfW (sfD n) S)::RoS::_) h:=star_open (M:=[_,_]) z1
  refine star_shut (M:=[_,_]) (star_map z2 (wds_congr fun j hj=>?_) fun _ z=>z)
  cases j with
  | zero=>rfl
  | succ j =>
   have e0:slfW (sfD n) S (1+j)=S.ws j:=slfW_succ (D:=sfD n) (s:=S) (i:=j)
   rw [Nat.add_comm j 1,recF_succ,e0,hv3 j (by omega)]
   have:(filledN n xl)[j]?=some (xl*100+j):=by simp [filledN,show j<n by omega]
   rw [List.getD_eq_getElem?_getD,this]
   rfl
 refine wo_call (.cons rfl (.cons rfl .nil)) trivial (read_keep h1 h2 (rd_all (Rd.fro (k:=0) rfl rfl)) filledN_len hev .here) ?_
 rintro v1 L1 x1 ⟨wv,rfl,rfl,rfl⟩
 obtain ⟨hrl⟩:Nonempty (zr.length≤22400):=⟨by
  have h3:=hJ.len
  rw [List.map_map] at h3
  rw [hzr,List.length_flatten,List.map_map]
  exact Nat.le_trans h3 hmN⟩
 have hzr2:zr=((Q.map (·.p)).map SfP.rd).flatten:=by rw [hzr,List.map_map];rfl
 have hbk:=sf_bk hJ hzw hzr2 (by omega) hv2
 rw [← hv1] at hbk
 refine wo_pure (of_has (.there .here) (vec_shape (by omega))) ?_
 rintro ⟨wa,wn,wc,rfl,hwn,_,hwz,hwy⟩
 obtain rfl:n=wn:=by rw [List.length_map,filledN_len] at hwn;omega
 obtain ⟨sv,hsv⟩:∃ v,S.ver=v:=⟨_,rfl⟩
 rw [hsv] at hbk hv1 hev ⊢
 have hm1:IntKind.i64.wrap (2*((zm.length:Nat):Int))=((sv:Nat):Int):=(wrap_i64 (by omega) (by omega)).trans (by omega)
 have hm2:IntKind.u64.wrap ((sv:Nat):Int)=((sv:Nat):Int):=wrap_u64 (by omega) (by omega)
 repeat (first | (apply wo_po;apply mo_load;exact rfl;exact .there (.there (.there (.row0 rfl)));exact gY) | (apply wo_po;apply mo_mapLen;exact rfl;exact (.there (.there .here));exact gY) | (apply wo_po;apply mo_bin;exact rfl;exact rfl;apply bin_mul;exact hm1;exact gY) | (apply wo_po;apply mo_conv;exact rfl;exact hm2;exact gY) | refine wneqF ?_ | refine we_seq ?_ | (refine wR ?_;try simp only [oS]) | refine wo_nil ?_ | refine wM ?_ | refine wA ?_ | refine wJ ?_ | refine wN ?_ | refine wD ?_ | (apply wo_po;apply mo_extract;exact rfl;exact rfl;exact gY) | refine wF ?_ | refine we_skip ?_)
 refine wo_ent (arr bkA 0 [.map (some mbA),.bool false,rv,.bool false]::vec 2 rv (zr.map bkE).flatten::mapC .u64 mbA zm::all [wds (sAddr r) (n+1) [] (recF (filledN n xl) sv),RoS]::vec 1 (.slice wa n wc) ((filledN n xl).map num)::RoS::[]) (.take (.there (.there (.there .here))) (.take (.there (.there (.there .here))) (.take (.there (.there .here)) (.take .here (.take .here (.take .here .refl)))))) ?_
 refine wo_call (.cons rfl (.cons rfl (.cons rfl .nil))) trivial (reads2_tr (l:=filledN n xl) (v:=sv) (fun {d1 d2}=>rdsoV (.there (.there (.there (.there .here)))) (by rw [List.length_map,filledN_len]) hwz hwy) h2 h1 (filledN_lt h2 (by omega)) (by omega)) ?_
 rintro w1 L1 x1 ⟨rv2,rfl,rfl⟩
 rw [wholeF_filled2 h1 h2 hxl]
 repeat (first | refine we_seq ?_ | (refine wR ?_;try simp only [oS]) | refine wo_nil ?_ | refine wM ?_)
 refine wo_ent (mapC .u64 mbA zm::arr bkA 0 [.map (some mbA),.bool false,rv2,.bool false]::vec 2 rv2 ((zr++[(sv,xl)]).map bkE).flatten::[]) (.take (.there (.there .here)) (.take (.there .here) (.take .here (.drop (.drop (.drop .refl)))))) ?_
 refine wo_call (.cons rfl .nil) trivial (good_tr hbk (by rw [List.length_append,List.length_singleton];omega)) ?_
 rintro v1 L1 x1 ⟨rfl,rfl,rfl⟩
 repeat (first | refine wo_nil ?_ | refine wA ?_ | refine we_ret ?_)
 (first | refine or1 Try.func8 Try.results8 hQ rfl ?_ | refine on1 Try.func8 Try.results8 hQ rfl ?_)
 exact ⟨rfl,rfl⟩
end
end Go.Proofs.Ytodgemainhokjaa
namespace Go.PB
open Go.Conc Go.Conc.Lib Go.ConcR.Gen
open Go.ConcR (KK stA smA rd wr mk DC0)
def WgAt (ty:TypeId) (wg:Nat) (w:World) (st sm:Int):Prop:=∃ f:Nat × Nat,w.heap[wg]?=some (.cells #[.int .u64 st,.int .u32 sm] ty f)∧w.frozen? ⟨wg,0,none⟩=false∧w.frozen? ⟨wg,1,none⟩=false
section
variable {ty:TypeId} {wg:Nat} {w w':World} {st sm:Int}
theorem WgAt.cellSt (h:WgAt ty wg w st sm):w.cell? (stA wg)=some (.int .u64 st):=by obtain ⟨f,h,_⟩:=h;simp [World.cell?,stA,h]
theorem WgAt.cellSm (h:WgAt ty wg w st sm):w.cell? (smA wg)=some (.int .u32 sm):=by obtain ⟨f,h,_⟩:=h;simp [World.cell?,smA,h]
theorem WgAt.thaw (h:WgAt ty wg w st sm) (n:Nat) (hn:n<2:=by decide):w.frozen? ⟨wg,n,none⟩=false:=by
 obtain ⟨f,_,h0,h1⟩:=h
 rcases n with _ | _ | n
 ·exact h0
 ·exact h1
 ·omega
theorem WgAt.unique {st' sm':Int} (h:WgAt ty wg w st sm) (h':WgAt ty wg w st' sm'):st=st'∧sm=sm':=by
 obtain ⟨f,h,_⟩:=h
 obtain ⟨f',h',_⟩:=h'
 rw [h] at h'
 simp at h'
 exact ⟨h'.1.1,h'.1.2⟩
theorem WgAt.setSt (h:WgAt ty wg w st sm) (v:Int):WgAt ty wg (w.setCell (stA wg) (.int .u64 v)) v sm:=by
 obtain ⟨f,h,h0,h1⟩:=h
 refine ⟨f,?_,by rw [frozen_setCell];exact h0,by rw [frozen_setCell];exact h1⟩
 simp [World.setCell,stA,Array.getElem?_modify,h]
theorem WgAt.setSm (h:WgAt ty wg w st sm) (v:Int):WgAt ty wg (w.setCell (smA wg) (.int .u32 v)) st v:=by
 obtain ⟨f,h,h0,h1⟩:=h
 refine ⟨f,?_,by rw [frozen_setCell];exact h0,by rw [frozen_setCell];exact h1⟩
 simp [World.setCell,smA,Array.getElem?_modify,h]
theorem WgAt.of_heap (h:WgAt ty wg w st sm) (e:w'.heap[wg]?=w.heap[wg]?):WgAt ty wg w' st sm:=by
 obtain ⟨f,h,h0,h1⟩:=h
 have hf:∀ o,w'.frozen? ⟨wg,o,none⟩=w.frozen? ⟨wg,o,none⟩:=fun o=>by unfold World.frozen?;rw [e]
 exact ⟨f,e.trans h,(hf 0).trans h0,(hf 1).trans h1⟩
def WgLive (ty:TypeId) (Wg:Nat) (w:World):Prop:=∃ st sm,WgAt ty Wg w st sm
end
def RL (ty:TypeId) (Wg:Nat) (w w₁:World):Prop:=WgLive ty Wg w→WgLive ty Wg w₁
theorem live_cell {ty:TypeId} {Wg:Nat} {w:World} (h:WgLive ty Wg w):∃ v,w.cell? ⟨Wg,0,none⟩=some v:=let ⟨_,_,x⟩:=h;⟨_,WgAt.cellSt x⟩
section
variable (P:Program) (ty:TypeId) (Wg:Nat)
def Zg (Stop:Goroutine→World→Prop) (m:Nat) (g:Goroutine) (w:World):Prop:=Goes P false (RL ty Wg) DC0 Stop m g w
def Z4 (g:Goroutine) (w:World):Prop :=
 g.status=.running∧mayWake P g=true∧(WgAt ty Wg w 0 0→∃ g' q,stepG P false g w=.go g' (w.setCell (smA Wg) (.int .u32 1)) (semEvents (smA Wg))∧QuitsD P q 1 g')
def Z3 (g:Goroutine) (w:World):Prop :=
 g.status=.running∧(WgAt ty Wg w 1 0→∃ g' m,stepG P false g w=.go g' (w.setCell (stA Wg) (.int .u64 0)) #[wr (stA Wg)]∧Zg P ty Wg (Z4 P ty Wg) m g' (w.setCell (stA Wg) (.int .u64 0)))
def Z2 (g:Goroutine) (w:World):Prop :=
 g.status=.running∧(WgAt ty Wg w 1 0→∃ g' m,stepG P false g w=.go g' w #[rd (stA Wg)]∧Zg P ty Wg (Z3 P ty Wg) m g' w)
def Z1 (g:Goroutine) (w:World):Prop :=
 g.status=.running∧∀ v wt:Nat,wt≤1→v<2147483647→WgAt ty Wg w ((v+1)*KK+wt) 0 →
  ∃ g',stepG P false g w=.go g' (w.setCell (stA Wg) (.int .u64 (v*KK+wt))) #[rd (stA Wg),wr (stA Wg)] ∧
   ((v=0∧wt=1)→∃ m,Zg P ty Wg (Z2 P ty Wg) m g' (w.setCell (stA Wg) (.int .u64 (v*KK+wt))))∧(¬ (v=0∧wt=1)→∃ q,QuitsD P q 1 g')
def ZK (g:Goroutine) (w:World):Prop :=
 g.status=.running∧∃ g' m,stepG P false g w=.go g' w #[mk .disable]∧Zg P ty Wg (Z1 P ty Wg) m g' w
def ZR (g:Goroutine) (w:World):Prop :=
 g.status=.running∧∃ g' m,stepG P false g w=.go g' w #[mk (.releaseMerge (stA Wg))]∧Zg P ty Wg (ZK P ty Wg) m g' w
end
end Go.PB
namespace Go.PB
open Go.Conc Go.Conc.Lib Go.ConcR.Gen
open Go.ConcR (KK stA smA rd wr mk DC0)
theorem quits_more {P:Program}:∀ {n d:Nat} {g:Goroutine},QuitsD P n d g→QuitsD P (n+1) d g
 | 0,_,_,h=>.inl h
 | _+1,_,_,h=>h.imp id fun ⟨hs,g',es,hm,hst,hq⟩=>⟨hs,g',es,hm,hst,quits_more hq⟩
theorem quits_mono {P:Program} {n n' d:Nat} {g:Goroutine} (h:QuitsD P n d g) (hn:n≤n'):QuitsD P n' d g:=by
 induction hn with
 | refl=>exact h
 | step _ ih=>exact quits_more ih
set_option maxRecDepth 100000 in
set_option maxHeartbeats 8000000 in
theorem add_goes [Go.ConcR.Payload] {P:Program} {L:WgLink} (H:WgLib P L) {Wg:Nat} {b₀:Frame} {a₀:Act} {ops₀:Array Oper} {i₀:Nat} {rest₀:List Nat} {k₀:List Item} {cs:List Frame} {qt:Nat}
  (hT:QuitsD P qt 0 (G (b₀.at (a₀.put ((ops₀[i₀]?).bind (·.dst)) (.tuple #[])) (.inRegion ops₀ rest₀::k₀)) cs)) (w:World) (hK:WgLive L.tWg Wg w) :
  Zg P L.tWg Wg (ZR P L.tWg Wg) 20 (G ((Go.Conc.base L.add).at ⟨#[.pointer (some ⟨Wg,0,none⟩),.int .i64 (-1)]++Array.replicate 115 undef,[]⟩ [.code (body_add L)]) (b₀.at a₀ (.inRegion ops₀ (i₀::rest₀)::k₀)::cs)) w:=by
 lib_facts
 simp only [body_add,addFn,Option.getD_some,Array.replicate_succ,Array.replicate_zero]
 unfold Zg
 have key:∀ {w w₁:World},WgLive L.tWg Wg w→RL L.tWg Wg w w₁→WgLive L.tWg Wg w₁:=fun h r=>r h
 walk_nrm
 repeat (first | u_c stepG_seq key hK | u_c stepG_region_end key hK | u_c stepG_skip key hK | u_reg key hK | u_skip key hK | u_op key hK | u_cond true key hK | u_cond false key hK | u_c stepG_ret' key hK | u_c stepG_block key hK | u_c stepG_loop key hK | u_c stepG_end key hK | u_defer key hK | u_leave1 H.f_uAdd key hK | u_leave1 H.f_uLoad key hK | u_leave0 H.f_uStore key hK | u_call H.f_uAdd (nm_uAdd L) uAddFn key hK | u_call H.f_uLoad (nm_uLoad L) uLoadFn key hK | u_call H.f_uStore (nm_uStore L) uStoreFn key hK | u_bub key hK)
 u_conv H.underlying_tWgP H.room_tWg (live_cell hK).choose_spec key hK
 refine Goes.stop (fun w₁ h₁=>?_)
 replace hK:=key hK h₁
 clear h₁
 refine ⟨rfl,_,30,stepG_markAt .releaseMerge (by simp) rfl rfl (by k_ne) rfl H.f_relMerge (x_relMerge_n L) (x_relMerge_b L) (x_relMerge_x L) (x_relMerge_f L) (by simp [Act.eval,stA]),?_⟩
 unfold Zg
 walk_nrm
 repeat (first | u_c stepG_seq key hK | u_c stepG_region_end key hK | u_c stepG_skip key hK | u_reg key hK | u_skip key hK | u_op key hK | u_cond true key hK | u_cond false key hK | u_c stepG_ret' key hK | u_c stepG_block key hK | u_c stepG_loop key hK | u_c stepG_end key hK | u_defer key hK | u_leave1 H.f_uAdd key hK | u_leave1 H.f_uLoad key hK | u_leave0 H.f_uStore key hK | u_call H.f_uAdd (nm_uAdd L) uAddFn key hK | u_call H.f_uLoad (nm_uLoad L) uLoadFn key hK | u_call H.f_uStore (nm_uStore L) uStoreFn key hK | u_bub key hK)
 refine Goes.stop (fun w₁ h₁=>?_)
 replace hK:=key hK h₁
 clear h₁
 refine ⟨rfl,_,80,stepG_mark0 .disable (by simp) rfl rfl (by k_ne) rfl H.f_disable (x_disable_n L) (x_disable_b L) (x_disable_x L) (x_disable_f L),?_⟩
 unfold Zg
 walk_nrm
 repeat (first | u_c stepG_seq key hK | u_c stepG_region_end key hK | u_c stepG_skip key hK | u_reg key hK | u_skip key hK | u_op key hK | u_cond true key hK | u_cond false key hK | u_c stepG_ret' key hK | u_c stepG_block key hK | u_c stepG_loop key hK | u_c stepG_end key hK | u_defer key hK | u_leave1 H.f_uAdd key hK | u_leave1 H.f_uLoad key hK | u_leave0 H.f_uStore key hK | u_call H.f_uAdd (nm_uAdd L) uAddFn key hK | u_call H.f_uLoad (nm_uLoad L) uLoadFn key hK | u_call H.f_uStore (nm_uStore L) uStoreFn key hK | u_bub key hK)
 refine Goes.stop (fun w₁ h₁=>?_)
 clear h₁ hK
 refine ⟨rfl,fun v wt hwt hv hw=>?_⟩
 have e0:IntKind.u64.wrap (KK+18446744069414584320)=0:=by decide
 have e1:IntKind.u64.wrap (KK+1+18446744069414584320)=1:=by decide
 rcases Nat.eq_zero_or_pos v with rfl | hvp <;> (obtain rfl | rfl:wt=0∨wt=1:=by omega)
 ·-- nobody is left,nobody waits
  replace hw:WgAt L.tWg Wg w₁ KK 0:=by simpa using hw
  have z:((0:Nat):Int)*KK+((0:Nat):Int)=0:=by simp
  rw [z]
  refine ⟨_,(stepG_add_atomic rfl rfl (by k_ne) rfl H.f_addU64 (x_addU64_n L) (x_addU64_b L) (x_addU64_x L) .u64 (x_addU64_f L) rfl rfl (WgAt.cellSt hw) (WgAt.thaw hw 0)).trans (by rw [e0];rfl),fun hl=>absurd hl.2 (by decide),fun _=>⟨qt+200,?_⟩⟩
  clear hw
  walk_nrm
  q_val (.int .u64 0)
  q_c stepG_region_end
  q_c stepG_ret'
  q_leave1 H.f_uAdd
  q_val (.int .u64 0)
  q_c stepG_region_end
  q_c stepG_seq
  q_c stepG_seq
  q_reg
  q_val (.int .u64 0)
  q_val (.int .u64 0)
  q_val (.bool false)
  q_val (.bool false)
  q_skip
  q_skip
  q_val (.bool false)
  q_c stepG_region_end
  q_cond false
  q_c stepG_skip
  q_c stepG_seq
  q_reg
  q_val (.int .u64 0)
  q_val (.int .u64 0)
  q_val (.int .i32 0)
  q_val (.int .i32 0)
  q_c stepG_region_end
  q_c stepG_seq
  q_reg
  q_val (.int .u64 0)
  q_val (.int .u64 0)
  q_val (.int .u32 0)
  q_val (.int .u32 0)
  q_c stepG_region_end
  q_c stepG_seq
  q_c stepG_seq
  q_reg
  q_val (.bool true)
  q_val (.int .i64 (-1))
  q_val (.bool false)
  q_val (.bool false)
  q_val (.bool false)
  q_skip
  q_skip
  q_skip
  q_skip
  q_val (.bool false)
  q_c stepG_region_end
  q_cond false
  q_c stepG_skip
  q_c stepG_seq
  q_c stepG_seq
  q_reg
  q_val (.int .i32 0)
  q_val (.bool false)
  q_c stepG_region_end
  q_cond false
  q_c stepG_skip
  q_c stepG_seq
  q_c stepG_seq
  q_reg
  q_val (.int .u32 0)
  q_val (.bool false)
  q_val (.bool false)
  q_skip
  q_skip
  q_val (.bool false)
  q_val (.bool false)
  q_skip
  q_skip
  q_skip
  q_skip
  q_val (.bool false)
  q_c stepG_region_end
  q_cond false
  q_c stepG_skip
  q_c stepG_seq
  q_c stepG_seq
  q_reg
  q_val (.int .i32 0)
  q_val (.bool false)
  q_val (.bool false)
  q_val (.int .u32 0)
  q_val (.bool true)
  q_val (.bool true)
  q_c stepG_region_end
  q_cond true
  q_c stepG_ret'
  q_enable
  q_leave0 H.f_add
  exact quits_mono hT (by omega)
 ·-- nobody is left,the starter waits: the last one
  replace hw:WgAt L.tWg Wg w₁ (KK+1) 0:=by simpa using hw
  have z:((0:Nat):Int)*KK+((1:Nat):Int)=1:=by simp
  rw [z]
  refine ⟨_,(stepG_add_atomic rfl rfl (by k_ne) rfl H.f_addU64 (x_addU64_n L) (x_addU64_b L) (x_addU64_x L) .u64 (x_addU64_f L) rfl rfl (WgAt.cellSt hw) (WgAt.thaw hw 0)).trans (by rw [e1];rfl),fun _=>⟨150,?_⟩,fun hl=>absurd ⟨rfl,rfl⟩ hl⟩
  have hK:WgLive L.tWg Wg (w₁.setCell (stA Wg) (.int .u64 1)):=⟨_,_,WgAt.setSt hw 1⟩
  clear hw
  unfold Zg
  walk_nrm
  u_op key hK
  u_c stepG_region_end key hK
  u_c stepG_ret' key hK
  u_leave1 H.f_uAdd key hK
  u_op key hK
  u_c stepG_region_end key hK
  u_c stepG_seq key hK
  u_c stepG_seq key hK
  u_reg key hK
  u_op key hK
  u_op key hK
  u_op key hK
  u_op key hK
  u_skip key hK
  u_skip key hK
  u_op key hK
  u_c stepG_region_end key hK
  u_cond false key hK
  u_c stepG_skip key hK
  u_c stepG_seq key hK
  u_reg key hK
  u_op key hK
  u_op key hK
  u_op key hK
  u_op key hK
  u_c stepG_region_end key hK
  u_c stepG_seq key hK
  u_reg key hK
  u_op key hK
  u_op key hK
  u_op key hK
  u_op key hK
  u_c stepG_region_end key hK
  u_c stepG_seq key hK
  u_c stepG_seq key hK
  u_reg key hK
  u_op key hK
  u_op key hK
  u_op key hK
  u_op key hK
  u_op key hK
  u_skip key hK
  u_skip key hK
  u_skip key hK
  u_skip key hK
  u_op key hK
  u_c stepG_region_end key hK
  u_cond false key hK
  u_c stepG_skip key hK
  u_c stepG_seq key hK
  u_c stepG_seq key hK
  u_reg key hK
  u_op key hK
  u_op key hK
  u_c stepG_region_end key hK
  u_cond false key hK
  u_c stepG_skip key hK
  u_c stepG_seq key hK
  u_c stepG_seq key hK
  u_reg key hK
  u_op key hK
  u_op key hK
  u_op key hK
  u_op key hK
  u_op key hK
  u_op key hK
  u_op key hK
  u_skip key hK
  u_skip key hK
  u_skip key hK
  u_skip key hK
  u_op key hK
  u_c stepG_region_end key hK
  u_cond false key hK
  u_c stepG_skip key hK
  u_c stepG_seq key hK
  u_c stepG_seq key hK
  u_reg key hK
  u_op key hK
  u_op key hK
  u_op key hK
  u_op key hK
  u_op key hK
  u_op key hK
  u_c stepG_region_end key hK
  u_cond false key hK
  u_c stepG_skip key hK
  u_c stepG_seq key hK
  u_c stepG_seq key hK
  u_reg key hK
  u_op key hK
  u_op key hK
  u_op key hK
  u_call H.f_uLoad (nm_uLoad L) uLoadFn key hK
  u_c stepG_seq key hK
  u_reg key hK
  u_op key hK
  u_c stepG_region_end key hK
  u_c stepG_seq key hK
  u_reg key hK
  u_op key hK
  u_op key hK
  u_op key hK
  refine Goes.stop (fun w₂ h₂=>?_)
  clear h₂ hK
  refine ⟨rfl,fun hw=>⟨_,60,stepG_load_atomic rfl rfl (by k_ne) rfl H.f_loadU64 (x_loadU64_n L) (x_loadU64_b L) (x_loadU64_x L) .u64 (x_loadU64_f L) rfl (WgAt.cellSt hw),?_⟩⟩
  have hK:WgLive L.tWg Wg w₂:=⟨_,_,hw⟩
  clear hw
  unfold Zg
  walk_nrm
  u_op key hK
  u_c stepG_region_end key hK
  u_c stepG_ret' key hK
  u_leave1 H.f_uLoad key hK
  u_op key hK
  u_op key hK
  u_c stepG_region_end key hK
  u_cond false key hK
  u_c stepG_skip key hK
  u_c stepG_seq key hK
  u_reg key hK
  u_op key hK
  u_op key hK
  u_op key hK
  u_call H.f_uStore (nm_uStore L) uStoreFn key hK
  u_reg key hK
  u_op key hK
  u_op key hK
  u_op key hK
  u_op key hK
  refine Goes.stop (fun w₃ h₃=>?_)
  clear h₃ hK
  refine ⟨rfl,fun hw=>⟨_,60,stepG_store_atomic rfl rfl (by k_ne) rfl H.f_storeU64 (x_storeU64_n L) (x_storeU64_b L) (x_storeU64_x L) (x_storeU64_f L) rfl rfl (WgAt.cellSt hw) (WgAt.thaw hw 0),?_⟩⟩
  have hK:WgLive L.tWg Wg (w₃.setCell (stA Wg) (.int .u64 0)):=⟨_,_,WgAt.setSt hw 0⟩
  clear hw
  unfold Zg
  walk_nrm
  u_c stepG_region_end key hK
  u_c stepG_end key hK
  u_leave0 H.f_uStore key hK
  u_c stepG_region_end key hK
  u_c stepG_seq key hK
  u_c stepG_seq key hK
  u_reg key hK
  u_op key hK
  u_c stepG_region_end key hK
  u_cond false key hK
  u_c stepG_skip key hK
  u_c stepG_block key hK
  u_c stepG_loop key hK
  u_c stepG_seq key hK
  u_c stepG_seq key hK
  u_reg key hK
  u_op key hK
  u_op key hK
  u_c stepG_region_end key hK
  u_cond true key hK
  u_c stepG_skip key hK
  u_c stepG_seq key hK
  u_c stepG_block key hK
  u_reg key hK
  u_op key hK
  u_op key hK
  u_op key hK
  refine Goes.stop (fun w₄ h₄=>?_)
  clear h₄ hK
  refine ⟨rfl,mayWake_entry rfl rfl H.f_semrelease (x_semrelease_b L),fun hw=>⟨_,qt+40,(stepG_semrelease rfl rfl (by k_ne) rfl H.f_semrelease (x_semrelease_n L) (x_semrelease_b L) (x_semrelease_x L) (x_semrelease_f L) (by simp [Act.eval,smA]) (WgAt.cellSm hw) (WgAt.thaw hw 1)).trans (by rfl),?_⟩⟩
  clear hw
  walk_nrm
  q_c stepG_region_end
  q_c stepG_inBlock
  q_reg
  q_val (.int .u32 1)
  q_val (.int .u32 0)
  q_val (.int .u32 0)
  q_c stepG_region_end
  q_c stepG_inLoop
  q_c stepG_seq
  q_c stepG_seq
  q_reg
  q_val (.int .u32 0)
  q_val (.bool false)
  q_c stepG_region_end
  q_cond false
  q_exit
  q_c stepG_end
  q_enable
  q_leave0 H.f_add
  exact quits_mono hT (by omega)
 ·-- some are left,nobody waits
  replace hw:WgAt L.tWg Wg w₁ (((v:Nat)+1)*KK+0) 0:=by simpa using hw
  have z:((v:Nat):Int)*KK+((0:Nat):Int)=(v:Int)*KK+0:=by simp
  rw [z]
  have eS:IntKind.u64.wrap (((v:Nat)+1)*KK+0+18446744069414584320)=(v:Int)*KK+0:=by rw [IntKind.wrap_u64];simp only [KK];omega
  obtain ⟨S,hS⟩:∃ S:Int,S=(v:Int)*KK+0:=⟨_,rfl⟩
  rw [← hS] at eS ⊢
  have a1:S/4294967296=(v:Int):=by rw [hS];simp only [KK];omega
  have a2:0≤S∧S<9223372036854775808:=by rw [hS];simp only [KK];omega
  have b1:bits .and .u64 S 2147483648=0:=by rw [hS];have:=Go.ConcN.st_flag v 0 (by omega) (by omega);simpa [KK] using this
  have b2:bits .and .u64 S 2147483647=0:=by rw [hS];have:=Go.ConcN.st_waiters v 0 (by omega) (by omega);simpa [KK] using this
  clear hS z
  refine ⟨_,(stepG_add_atomic rfl rfl (by k_ne) rfl H.f_addU64 (x_addU64_n L) (x_addU64_b L) (x_addU64_x L) .u64 (x_addU64_f L) rfl rfl (WgAt.cellSt hw) (WgAt.thaw hw 0)).trans (by rw [eS];rfl),fun hl=>absurd hl.1 (by omega),fun _=>⟨qt+150,?_⟩⟩
  clear hw
  walk_nrm
  q_vn (.int .u64 S)
  q_c stepG_region_end
  q_c stepG_ret'
  q_leave1 H.f_uAdd
  q_vn (.int .u64 S)
  q_c stepG_region_end
  q_c stepG_seq
  q_c stepG_seq
  q_reg
  q_vn (.int .u64 S)
  q_vn (.int .u64 0)
  q_vn (.bool false)
  q_vn (.bool false)
  q_skip
  q_skip
  q_vn (.bool false)
  q_c stepG_region_end
  q_cond false
  q_c stepG_skip
  q_c stepG_seq
  q_reg
  q_vn (.int .u64 S)
  q_vn (.int .u64 (v:Int))
  q_vn (.int .i32 (v:Int))
  q_vn (.int .i32 (v:Int))
  q_c stepG_region_end
  q_c stepG_seq
  q_reg
  q_vn (.int .u64 S)
  q_vn (.int .u64 0)
  q_vn (.int .u32 0)
  q_vn (.int .u32 0)
  q_c stepG_region_end
  q_c stepG_seq
  q_c stepG_seq
  q_reg
  q_vn (.bool true)
  q_vn (.int .i64 (-1))
  q_vn (.bool false)
  q_vn (.bool false)
  q_vn (.bool false)
  q_skip
  q_skip
  q_skip
  q_skip
  q_vn (.bool false)
  q_c stepG_region_end
  q_cond false
  q_c stepG_skip
  q_c stepG_seq
  q_c stepG_seq
  q_reg
  q_vn (.int .i32 (v:Int))
  q_vn (.bool false)
  q_c stepG_region_end
  q_cond false
  q_c stepG_skip
  q_c stepG_seq
  q_c stepG_seq
  q_reg
  q_vn (.int .u32 0)
  q_vn (.bool false)
  q_vn (.bool false)
  q_skip
  q_skip
  q_vn (.bool false)
  q_vn (.bool false)
  q_skip
  q_skip
  q_skip
  q_skip
  q_vn (.bool false)
  q_c stepG_region_end
  q_cond false
  q_c stepG_skip
  q_c stepG_seq
  q_c stepG_seq
  q_reg
  q_vn (.int .i32 (v:Int))
  q_vn (.bool true)
  q_vn (.bool true)
  q_skip
  q_skip
  q_vn (.bool true)
  q_c stepG_region_end
  q_cond true
  q_c stepG_ret'
  q_enable
  q_leave0 H.f_add
  exact quits_mono hT (by omega)
 ·-- some are left,the starter waits
  replace hw:WgAt L.tWg Wg w₁ (((v:Nat)+1)*KK+1) 0:=by simpa using hw
  have z:((v:Nat):Int)*KK+((1:Nat):Int)=(v:Int)*KK+1:=by simp
  rw [z]
  have eS:IntKind.u64.wrap (((v:Nat)+1)*KK+1+18446744069414584320)=(v:Int)*KK+1:=by rw [IntKind.wrap_u64];simp only [KK];omega
  obtain ⟨S,hS⟩:∃ S:Int,S=(v:Int)*KK+1:=⟨_,rfl⟩
  rw [← hS] at eS ⊢
  have a1:S/4294967296=(v:Int):=by rw [hS];simp only [KK];omega
  have a2:0≤S∧S<9223372036854775808:=by rw [hS];simp only [KK];omega
  have b1:bits .and .u64 S 2147483648=0:=by rw [hS];have:=Go.ConcN.st_flag v 1 (by omega) (by omega);simpa [KK] using this
  have b2:bits .and .u64 S 2147483647=1:=by rw [hS];have:=Go.ConcN.st_waiters v 1 (by omega) (by omega);simpa [KK] using this
  clear hS z
  refine ⟨_,(stepG_add_atomic rfl rfl (by k_ne) rfl H.f_addU64 (x_addU64_n L) (x_addU64_b L) (x_addU64_x L) .u64 (x_addU64_f L) rfl rfl (WgAt.cellSt hw) (WgAt.thaw hw 0)).trans (by rw [eS];rfl),fun hl=>absurd hl.1 (by omega),fun _=>⟨qt+150,?_⟩⟩
  clear hw
  walk_nrm
  q_vn (.int .u64 S)
  q_c stepG_region_end
  q_c stepG_ret'
  q_leave1 H.f_uAdd
  q_vn (.int .u64 S)
  q_c stepG_region_end
  q_c stepG_seq
  q_c stepG_seq
  q_reg
  q_vn (.int .u64 S)
  q_vn (.int .u64 0)
  q_vn (.bool false)
  q_vn (.bool false)
  q_skip
  q_skip
  q_vn (.bool false)
  q_c stepG_region_end
  q_cond false
  q_c stepG_skip
  q_c stepG_seq
  q_reg
  q_vn (.int .u64 S)
  q_vn (.int .u64 (v:Int))
  q_vn (.int .i32 (v:Int))
  q_vn (.int .i32 (v:Int))
  q_c stepG_region_end
  q_c stepG_seq
  q_reg
  q_vn (.int .u64 S)
  q_vn (.int .u64 1)
  q_vn (.int .u32 1)
  q_vn (.int .u32 1)
  q_c stepG_region_end
  q_c stepG_seq
  q_c stepG_seq
  q_reg
  q_vn (.bool true)
  q_vn (.int .i64 (-1))
  q_vn (.bool false)
  q_vn (.bool false)
  q_vn (.bool false)
  q_skip
  q_skip
  q_skip
  q_skip
  q_vn (.bool false)
  q_c stepG_region_end
  q_cond false
  q_c stepG_skip
  q_c stepG_seq
  q_c stepG_seq
  q_reg
  q_vn (.int .i32 (v:Int))
  q_vn (.bool false)
  q_c stepG_region_end
  q_cond false
  q_c stepG_skip
  q_c stepG_seq
  q_c stepG_seq
  q_reg
  q_vn (.int .u32 1)
  q_vn (.bool true)
  q_vn (.bool true)
  q_vn (.int .i64 (-1))
  q_vn (.bool false)
  q_vn (.bool false)
  q_vn (.bool false)
  q_skip
  q_skip
  q_skip
  q_skip
  q_vn (.bool false)
  q_c stepG_region_end
  q_cond false
  q_c stepG_skip
  q_c stepG_seq
  q_c stepG_seq
  q_reg
  q_vn (.int .i32 (v:Int))
  q_vn (.bool true)
  q_vn (.bool true)
  q_skip
  q_skip
  q_vn (.bool true)
  q_c stepG_region_end
  q_cond true
  q_c stepG_ret'
  q_enable
  q_leave0 H.f_add
  exact quits_mono hT (by omega)
end Go.PB
namespace Go.PB
open Go.Conc Go.Conc.Lib Go.ConcR.Gen
open Go.ConcR (KK stA smA rd wr mk DC0)
set_option maxRecDepth 100000 in
theorem add_goes2 [Go.ConcR.Payload] {P:Program} {L:WgLink} (H:WgLib P L) {Wg:Nat} {b₀:Frame} {a₀:Act} {ops₀:Array Oper} {i₀:Nat} {rest₀:List Nat} {k₀:List Item} {cs:List Frame} {qt:Nat}
  (hT:QuitsD P qt 0 (G (b₀.at (a₀.put ((ops₀[i₀]?).bind (·.dst)) (.tuple #[])) (.inRegion ops₀ rest₀::k₀)) cs)) (w:World) (hK:WgLive L.tWg Wg w) :
  Zg P L.tWg Wg (ZR P L.tWg Wg) 20 (G ((Go.Conc.base L.add).at ⟨#[.pointer (some ⟨Wg,0,none⟩),.int .i64 (-1),undef,undef,undef,undef,undef,undef,undef,undef,undef,undef,undef,undef,undef,undef,undef,undef,undef,undef,undef,undef,undef,undef,undef,undef,undef,undef,undef,undef,undef,undef,undef,undef,undef,undef,undef,undef,undef,undef,undef,undef,undef,undef,undef,undef,undef,undef,undef,undef,undef,undef,undef,undef,undef,undef,undef,undef,undef,undef,undef,undef,undef,undef,undef,undef,undef,undef,undef,undef,undef,undef,undef,undef,undef,undef,undef,undef,undef,undef,undef,undef,undef,undef,undef,undef,undef,undef,undef,undef,undef,undef,undef,undef,undef,undef,undef,undef,undef,undef,undef,undef,undef,undef,undef,undef,undef,undef,undef,undef,undef,undef,undef,undef,undef,undef,undef],[]⟩ [.code (body_add L)]) (b₀.at a₀ (.inRegion ops₀ (i₀::rest₀)::k₀)::cs)) w:=by
 have e:(#[.pointer (some ⟨Wg,0,none⟩),.int .i64 (-1),undef,undef,undef,undef,undef,undef,undef,undef,undef,undef,undef,undef,undef,undef,undef,undef,undef,undef,undef,undef,undef,undef,undef,undef,undef,undef,undef,undef,undef,undef,undef,undef,undef,undef,undef,undef,undef,undef,undef,undef,undef,undef,undef,undef,undef,undef,undef,undef,undef,undef,undef,undef,undef,undef,undef,undef,undef,undef,undef,undef,undef,undef,undef,undef,undef,undef,undef,undef,undef,undef,undef,undef,undef,undef,undef,undef,undef,undef,undef,undef,undef,undef,undef,undef,undef,undef,undef,undef,undef,undef,undef,undef,undef,undef,undef,undef,undef,undef,undef,undef,undef,undef,undef,undef,undef,undef,undef,undef,undef,undef,undef,undef,undef,undef,undef]:Array Value)=#[.pointer (some ⟨Wg,0,none⟩),.int .i64 (-1)]++Array.replicate 115 undef:=by kernel_rfl
 rw [e]
 exact add_goes H hT w hK
set_option maxHeartbeats 8000000 in
set_option maxRecDepth 100000 in
theorem done_goes [Go.ConcR.Payload] {P:Program} {L:WgLink} (H:WgLib P L) {Wg:Nat} {c:Frame} {cs:List Frame} {qt:Nat} (hcm:c.mode=.returning) (hT:QuitsD P qt 0 (G c cs)) (w:World) (hK:WgLive L.tWg Wg w) :
  Zg P L.tWg Wg (ZR P L.tWg Wg) 23 (G ((baseD L.done).at ⟨#[.pointer (some ⟨Wg,0,none⟩),undef,undef,undef],[]⟩ [.code (body_done L)]) (c::cs)) w:=by
 lib_facts
 have hA:=@add_goes2 _ P L H Wg
 unfold Zg at hA ⊢
 have key:∀ {w w₁:World},WgLive L.tWg Wg w→RL L.tWg Wg w w₁→WgLive L.tWg Wg w₁:=fun h r=>r h
 simp only [body_done,body_add,doneFn,addFn,Option.getD_some] at hA ⊢
 u_reg key hK
 u_op key hK
 u_in key hK
 refine goes_call rfl rfl (by k_ne) rfl H.f_add (nm_add L) rfl ⟨by u_nil,?_⟩
 walk_nrmf addFn
 refine hA (qt:=qt+3) ?_ _ hK
 q_c stepG_region_end
 q_c stepG_end
 exact QuitsD.leaveD rfl rfl H.f_done rfl hcm hT
theorem done_enter {P:Program} {L:WgLink} (H:WgLib P L) {v:Value}:Frame.enter P L.done #[v] .deferred=(baseD L.done).at ⟨#[v,undef,undef,undef],[]⟩ [.code (body_done L)]:=by
 simp [Frame.enter,H.f_done,body_done,doneFn]
 rfl
end Go.PB
