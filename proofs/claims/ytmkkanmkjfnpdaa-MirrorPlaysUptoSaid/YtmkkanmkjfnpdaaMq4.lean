/-
  Part 4 of 9.
-/
import Derived.Test.YtmkkanmkjfnpdaaMq3
import Derived.Test.YtmkkanmkjfnpdaaMq2
set_option linter.unusedVariables false
set_option linter.unusedSimpArgs false
namespace Go.Proofs.Ytmkkanmkjfnpdaa
open Go Go.PB
attribute [local irreducible] Mo Bin Eql Tr Wo Ap Wle
attribute [local instance] Pass.of_no
instance {P:Program} {t e:Nat} [p:PtT P t e]:Und P t (.pointer e):=⟨p.ok⟩
abbrev mH (cv:Value):Hand:=mHand Try.prog cv 55 132
theorem mo_noBubble {P:Program} {e:Env} {L:List HProp} {f:Nat} {tys:Array TypeId} {ty:TypeId} [x:Exn P f (fun _=>(pure (.bool false):Sem Value))]:Mo P e (.call ⟨.value (.func f),#[],tys⟩) ty L fun v' L'=>v'=.bool false∧L'=L :=
 mo_ext (en:=fun _=>(pure (.bool false):Sem Value)) (args:=[]) (vs:=[]) .nil fun _ _ _ _ st q=>q _ _ _ ⟨rfl,rfl⟩ st
theorem at_enable {cv:Value} {X:GX} {n:Nat} {e:Env} {L:List HProp} {f:FuncId} {fn:Func} {um:FrameMode} {Q:PB.End→FrameMode→Hp→MX→Prop} {R:Value→List HProp→MX→Prop} {ex:Ex} {g:Nat} [xn:Exn Try.prog g (fun _=>(do mark .enable;pure Extern.Race.none_:Sem Value))]
  (hf:Try.prog.funcs[f]?=some fn) (hr:fn.results=#[]) (hQ:∀ v L' x' h',R v L' x'→Star L' h'→Q (.ret v) um h' x') (hex:ex=.ret∨ex=.normal) (hd:X.deaf=true) (hR:R (.tuple #[]) L (.game { X with deaf:=false })) :
  At n e L fun t h=>leave Try.prog (mH cv) f .normal Q ex t ⟨[{ target:=.fn (.func g) [].toArray,args:=([]++[]:List Value).toArray }],um⟩ h (.game X):=by
 intro t h a1 a2 a3
 have key:Wd Try.prog (mH cv) f .normal .returning t ⟨[{ target:=.fn (.func g) [].toArray,args:=([]++[]:List Value).toArray }],um⟩ h (.game X) Q:=by
  refine wd_late rfl fun O hO=>⟨X,rfl,hd,?_,hO _ _ ?_⟩
  ·exact says_enable
  ·have:=at_ret0 (kd:=.normal) (n:=n) (e:=e) (L:=L) (B:=mH cv) (x:=.game { X with deaf:=false }) hf hr hQ (.inl rfl:Ex.ret=.ret∨Ex.ret=.normal) hR
   exact this t h a1 a2 a3
 rcases hex with rfl | rfl
 ·exact key
 ·exact key
section
variable {cv:Value} {X:GX} {L F:List HProp}
theorem uAdd_tr (p:X.wt=.play) (h1:X.ad<1000) (h2:X.ad=X.seats.length+X.nf) (tk:X.tok.isSome=true) (hd:X.deaf=true) :
  Tr Try.prog (mH cv) 65 [.pointer (some ⟨X.wg,0,none⟩),.int .u64 4294967296] L (.game X) fun v L' x'=>∃ m:Nat,m≤X.ad∧v=.int .u64 ((m+1:Nat)*kk)∧L'=L∧x'=.game { X with ad:=X.ad+1 }:=by
 refine tr_of_body Try.func65 rfl Try.ntmps65 (by simp) fun um Q _ hQ=>?_
 simp only [argE,Nat.zero_add,Nat.reduceAdd]
 repeat (first | refine we_seq ?_ | (refine wR ?_;try simp only [oS]) | refine wo_nil ?_ | refine wM ?_ | refine wA ?_ | refine wN ?_ | refine wD ?_)
 refine wo_add rfl rfl p h1 h2 tk hd trivial (by decide) fun m hm=>?_
 repeat (first | refine wo_nil ?_ | refine wA ?_ | refine we_ret ?_)
 (first | refine or1 Try.func65 Try.results65 hQ rfl ?_ | refine on1 Try.func65 Try.results65 hQ rfl ?_)
 exact ⟨m,hm,rfl,rfl,rfl⟩
theorem uLook_tr (b:Nat) (p:X.wt=.wait b∨(X.wt=.play∧b=X.ad∧X.ad=X.seats.length+X.nf∧∀ s∈X.seats,s.closed)) (hd:X.deaf=true) :
  Tr Try.prog (mH cv) 48 [.pointer (some ⟨X.wg,0,none⟩)] L (.game X) fun v L' x'=>L'=L∧((∃ m:Nat,0<m∧m≤b∧v=.int .u64 (m*kk)∧x'=.game { X with wt:=.seen m })∨(v=.int .u64 0∧x'=.game { X with wt:=.zero })):=by
 refine tr_of_body Try.func48 rfl Try.ntmps48 (by simp) fun um Q _ hQ=>?_
 simp only [argE,Nat.zero_add,Nat.reduceAdd]
 repeat (first | refine we_seq ?_ | (refine wR ?_;try simp only [oS]) | refine wo_nil ?_ | refine wM ?_ | refine wA ?_ | refine wN ?_ | refine wD ?_)
 refine wo_look b rfl p hd trivial (by decide) (fun m h1 h2=>?_) ?_
 ·repeat (first | refine wo_nil ?_ | refine wA ?_ | refine we_ret ?_)
  (first | refine or1 Try.func48 Try.results48 hQ rfl ?_ | refine on1 Try.func48 Try.results48 hQ rfl ?_)
  exact ⟨rfl,.inl ⟨m,h1,h2,rfl,rfl⟩⟩
 ·repeat (first | refine wo_nil ?_ | refine wA ?_ | refine we_ret ?_)
  (first | refine or1 Try.func48 Try.results48 hQ rfl ?_ | refine on1 Try.func48 Try.results48 hQ rfl ?_)
  exact ⟨rfl,.inr ⟨rfl,rfl⟩⟩
theorem uLast_tr (p:X.wt=.woken) (hd:X.deaf=true) :
  Tr Try.prog (mH cv) 48 [.pointer (some ⟨X.wg,0,none⟩)] L (.game X) fun v L' x'=>L'=L∧v=.int .u64 0∧x'=.game { X with wt:=.zero }:=by
 refine tr_of_body Try.func48 rfl Try.ntmps48 (by simp) fun um Q _ hQ=>?_
 simp only [argE,Nat.zero_add,Nat.reduceAdd]
 repeat (first | refine we_seq ?_ | (refine wR ?_;try simp only [oS]) | refine wo_nil ?_ | refine wM ?_ | refine wA ?_ | refine wN ?_ | refine wD ?_)
 refine wo_last rfl p hd trivial (by decide) ?_
 repeat (first | refine wo_nil ?_ | refine wA ?_ | refine we_ret ?_)
 (first | refine or1 Try.func48 Try.results48 hQ rfl ?_ | refine on1 Try.func48 Try.results48 hQ rfl ?_)
 exact ⟨rfl,rfl,rfl⟩
theorem uSwap_tr {v:Nat} (hv:0<v) (p:X.wt=.seen v) (hd:X.deaf=true) :
  Tr Try.prog (mH cv) 84 [.pointer (some ⟨X.wg,0,none⟩),.int .u64 (v*kk),.int .u64 (v*kk+1)] L (.game X) fun w L' x'=>L'=L∧((w=.bool true∧x'=.game { X with wt:=.parked })∨∃ b,b<v∧w=.bool false∧x'=.game { X with wt:=.wait b }):=by
 refine tr_of_body Try.func84 rfl Try.ntmps84 (by simp) fun um Q _ hQ=>?_
 simp only [argE,Nat.zero_add,Nat.reduceAdd]
 repeat (first | refine we_seq ?_ | (refine wR ?_;try simp only [oS]) | refine wo_nil ?_ | refine wM ?_ | refine wA ?_ | refine wN ?_ | refine wD ?_)
 refine wo_swap rfl rfl rfl hv p hd trivial (by decide) ?_ fun b hb=>?_
 ·repeat (first | refine wo_nil ?_ | refine wA ?_ | refine we_ret ?_)
  (first | refine or1 Try.func84 Try.results84 hQ rfl ?_ | refine on1 Try.func84 Try.results84 hQ rfl ?_)
  exact ⟨rfl,.inl ⟨rfl,rfl⟩⟩
 ·repeat (first | refine wo_nil ?_ | refine wA ?_ | refine we_ret ?_)
  (first | refine or1 Try.func84 Try.results84 hQ rfl ?_ | refine on1 Try.func84 Try.results84 hQ rfl ?_)
  exact ⟨rfl,.inr ⟨b,hb,rfl,rfl⟩⟩
theorem kk_bits {m:Nat} (h:m<1002):IntKind.u64.wrap (BitVec.ofInt IntKind.u64.bits ((m:Int)*kk) &&& BitVec.ofInt IntKind.u64.bits (2147483648:Int)).toNat=0 ∧
  IntKind.u64.wrap (BitVec.ofInt IntKind.u64.bits ((m:Int)*kk) &&& BitVec.ofInt IntKind.u64.bits (2147483647:Int)).toNat=0∧((m:Int)*kk).fdiv (2^(min (32:Int).toNat IntKind.u64.bits))=m∧IntKind.i32.wrap (m:Int)=m:=by
 have key:∀ m∈List.range 1002,IntKind.u64.wrap (BitVec.ofInt IntKind.u64.bits ((m:Int)*kk) &&& BitVec.ofInt IntKind.u64.bits (2147483648:Int)).toNat=0 ∧
  IntKind.u64.wrap (BitVec.ofInt IntKind.u64.bits ((m:Int)*kk) &&& BitVec.ofInt IntKind.u64.bits (2147483647:Int)).toNat=0∧((m:Int)*kk).fdiv (2^(min (32:Int).toNat IntKind.u64.bits))=m∧IntKind.i32.wrap (m:Int)=m:=by decide +kernel
 exact key m (List.mem_range.2 h)
theorem wgAdd_tr (p:X.wt=.play) (h1:X.ad<1000) (h2:X.ad=X.seats.length+X.nf) (tk:X.tok.isSome=true) (hd:X.deaf=false) (hs:∀ h,Star L h→h.shp X.wg=some (132,2)) :
  Tr Try.prog (mH cv) 53 [.pointer (some ⟨X.wg,0,none⟩),.int .i64 1] L (.game X) fun v L' x'=>v=.tuple #[]∧L'=L∧x'=.game { X with ad:=X.ad+1 }:=by
 refine tr_of_body Try.func53 rfl Try.ntmps53 (by simp) fun um Q _ hQ=>?_
 simp only [argE,Nat.zero_add,Nat.reduceAdd]
 repeat (first | refine wlssF ?_ | refine we_seq ?_ | (refine wR ?_;try simp only [oS]) | refine wo_nil ?_ | refine wM ?_ | refine wT ?_ | refine wF ?_ | refine we_skip ?_)
 refine wo_disable trivial (by decide) hd ?_
 repeat (first | (refine wR ?_;try simp only [oS]) | refine wo_nil ?_)
 refine wo_defer (first:=[]) (cap:=[]) (vs:=[]) rfl .nil trivial ?_
 repeat (first | (apply wo_po;apply mo_noBubble;exact trivial) | refine we_seq ?_ | (refine wR ?_;try simp only [oS]) | refine wo_nil ?_ | refine wM ?_ | refine wA ?_ | refine wN ?_ | refine wD ?_ | (apply wo_po;apply mo_conv;exact rfl;(first | exact wrap_i64 (by omega) (by omega) | exact wrap_u64 (by omega) (by omega));exact gY) | refine wF ?_ | refine we_skip ?_)
 have c1:IntKind.u64.wrap (1:Int)=1:=by decide
 have c2:IntKind.u64.wrap ((1:Int)*2^(min (32:Int).toNat IntKind.u64.bits))=4294967296:=by decide
 repeat (first | (apply wo_po;apply mo_bin;exact rfl;exact rfl;apply bin_shl;omega;exact c2;exact trivial))
 refine wo_call (.cons rfl (.cons rfl .nil)) trivial (uAdd_tr (X:={ X with deaf:=true }) p h1 h2 tk rfl) ?_
 rintro v1 L1 x1 ⟨m,hm,rfl,rfl,rfl⟩
 replace hm:m≤X.ad:=hm
 obtain ⟨b1,b2,b3,b4⟩:=kk_bits (m:=m+1) (by omega)
 have b5:IntKind.u32.wrap 0=0:=by decide
 have b6:IntKind.i32.wrap 1=1:=by decide
 repeat (first | (apply wo_po;apply mo_bin;exact rfl;exact rfl;apply bin_and;(first | exact b1 | exact b2);exact trivial) | (apply wo_po;apply mo_bin;exact rfl;exact rfl;apply bin_shr;omega;exact b3;exact trivial) | (apply wo_po;apply mo_conv;exact rfl;(first | exact b4 | exact b5 | exact b6);exact gY) | refine wgtrT ?_ | refine wneqF ?_ | refine we_seq ?_ | (refine wR ?_;try simp only [oS]) | refine wo_nil ?_ | refine wM ?_ | refine wA ?_ | (apply wo_no;exact rfl) | refine wK ?_ | refine wJ ?_ | (apply wo_po;apply mo_bin;exact rfl;exact rfl;exact bin_eql;exact gY) | refine wF ?_ | refine we_skip ?_)
 by_cases hm0:m=0
 ·repeat (first | (apply wo_po;apply mo_convPUo (c:=1) (m:=2) (by decide:(1:Nat)≠0);exact rfl;exact hs;omega;exact trivial) | (refine wR ?_;try simp only [oS]) | refine wM ?_ | refine wN ?_ | refine wD ?_ | refine wT ?_)
  apply wo_mark (X:={ X with deaf:=true,ad:=X.ad+1 }) (m:=Mark.read)
  exact rfl
  exact .inl rfl
  exact trivial
  decide
  repeat (first | refine wlssF ?_ | refine wgtrT ?_ | refine wneqF ?_ | refine we_seq ?_ | (refine wR ?_;try simp only [oS]) | refine wo_nil ?_ | refine wM ?_ | (apply wo_no;exact rfl) | refine wK ?_ | refine wJ ?_ | refine wT ?_ | refine wF ?_ | refine we_ret ?_ | refine we_skip ?_)
  refine at_enable (X:={ X with deaf:=true,ad:=X.ad+1 }) Try.func53 Try.results53 hQ (.inl rfl) rfl ?_
  exact ⟨rfl,rfl,by rw [← hd]⟩
 ·repeat (first | refine wlssF ?_ | refine wgtrT ?_ | refine wneqF ?_ | refine we_seq ?_ | (refine wR ?_;try simp only [oS]) | refine wo_nil ?_ | refine wM ?_ | (apply wo_no;exact rfl) | refine wK ?_ | refine wJ ?_ | refine wT ?_ | refine wF ?_ | refine we_ret ?_ | refine we_skip ?_)
  refine at_enable (X:={ X with deaf:=true,ad:=X.ad+1 }) Try.func53 Try.results53 hQ (.inl rfl) rfl ?_
  exact ⟨rfl,rfl,by rw [← hd]⟩
def waitX (X:GX):Option Nat→GX
 | none=>{ X with deaf:=true }
 | some b=>{ X with deaf:=true,wt:=.wait b }
def WaitI (X:GX) (ptr:Value) (L:List HProp):PB.Inv (Option Nat) MX where
 e:=fun _=>[(0,ptr)]
 L:=fun _=>L
 x:=fun b=>.game (waitX X b)
 ok:=fun b=>∀ c,b=some c→c≤X.ad
def waitM (X:GX):Option Nat→Nat
 | none=>X.ad+1
 | some b=>b
theorem wgWait_tr (p:X.wt=.play) (h1:X.ad<1000) (h2:X.ad=X.seats.length+X.nf) (hc:∀ s∈X.seats,s.closed) (hn:∀ d,X.free=some d→X.nf=d.q0.length) (hd:X.deaf=false) (hs:∀ h,Star L h→h.shp X.wg=some (132,2)) :
  Tr Try.prog (mH cv) 56 [.pointer (some ⟨X.wg,0,none⟩)] L (.game X) fun v L' x'=>v=.tuple #[]∧L'=X.ends::L∧x'=.idle:=by
 have b5:IntKind.u32.wrap 0=0:=by decide
 refine tr_of_body Try.func56 rfl Try.ntmps56 (by simp) fun um Q _ hQ=>?_
 simp only [argE,Nat.zero_add,Nat.reduceAdd]
 repeat (first | refine we_seq ?_ | (refine wR ?_;try simp only [oS]) | refine wT ?_)
 refine wo_disable trivial (by decide) hd ?_
 repeat (first | refine wo_nil ?_ | refine we_block ?_)
 refine we_loopN (WaitI X (.pointer (some ⟨X.wg,0,none⟩)) L) (waitM X) none (fun c h=>by cases h) (by exact ⟨rfl,trivial⟩) .refl rfl ?_
 intro ob hob
 obtain ⟨b,hb,hbm⟩:∃ b,b≤X.ad∧(∀ c,c<b→c<waitM X ob)∧((waitX X ob).wt=.wait b∨((waitX X ob).wt=.play∧b=(waitX X ob).ad∧(waitX X ob).ad=(waitX X ob).seats.length+(waitX X ob).nf∧∀ s∈(waitX X ob).seats,s.closed)):=by
  cases ob with
  | none=>exact ⟨X.ad,Nat.le_refl _,fun c h=>Nat.lt_succ_of_lt h,.inr ⟨p,rfl,h2,hc⟩⟩
  | some b=>exact ⟨b,hob b rfl,fun c h=>h,.inl rfl⟩
 obtain ⟨hlt,hbm⟩:=hbm
 have hY:∀ w,{ waitX X ob with wt:=w }={ X with deaf:=true,wt:=w }:=fun w=>by cases ob <;> rfl
 have hwg:(waitX X ob).wg=X.wg:=by cases ob <;> rfl
 have hdf:(waitX X ob).deaf=true:=by cases ob <;> rfl
 repeat (first | refine we_seq ?_ | (refine wR ?_;try simp only [oS]) | refine wM ?_ | refine wN ?_ | refine wD ?_ | refine we_block ?_)
 refine wo_call (vs:=[.pointer (some ⟨(waitX X ob).wg,0,none⟩)]) (.cons (by rw [hwg];rfl) .nil) trivial (uLook_tr b hbm hdf) ?_
 rintro v1 L1 x1 ⟨rfl,⟨m,hm0,hm,rfl,rfl⟩ | ⟨rfl,rfl⟩⟩
 ·obtain ⟨k1,k2,k3,k4⟩:=kk_bits (m:=m) (by clear hbm h2;omega)
  clear hbm h2
  have k6:IntKind.u64.wrap ((m:Int)*kk+1)=(m:Int)*kk+1:=wrap_u64 (by unfold kk;omega) (by unfold kk;omega)
  rw [hY]
  repeat (first | (apply wo_po;apply mo_bin;exact rfl;exact rfl;apply bin_and;(first | exact k1 | exact k2);exact trivial) | (apply wo_po;apply mo_bin;exact rfl;exact rfl;apply bin_shr;omega;exact k3;exact trivial) | (apply wo_po;apply mo_conv;exact rfl;(first | exact k4 | exact b5);exact gY) | (apply wo_po;apply mo_bin;exact rfl;exact rfl;apply bin_add;exact k6;exact trivial) | refine weqlF ?_ | refine we_seq ?_ | (refine wR ?_;try simp only [oS]) | refine wo_nil ?_ | refine wM ?_ | refine wA ?_ | refine wN ?_ | refine wD ?_ | refine wF ?_ | refine we_skip ?_)
  refine wo_call (.cons rfl (.cons rfl (.cons rfl .nil))) trivial (uSwap_tr (X:={ X with deaf:=true,wt:=.seen m }) hm0 rfl rfl) ?_
  rintro v1 L2 x1 ⟨rfl,⟨rfl,rfl⟩ | ⟨c,hcm,rfl,rfl⟩⟩
  ·repeat (first | (apply wo_po;apply mo_convPUo (c:=1) (m:=2) (by decide:(1:Nat)≠0);exact rfl;exact hs;omega;exact trivial) | refine weqlT ?_ | refine we_seq ?_ | (refine wR ?_;try simp only [oS]) | refine wo_nil ?_ | refine wM ?_ | refine wK ?_ | refine wN ?_ | refine wD ?_ | refine wT ?_)
   apply wo_mark (X:={ X with deaf:=true,wt:=.parked }) (m:=Mark.write)
   exact rfl
   exact .inr rfl
   exact trivial
   decide
   repeat (first | (apply wo_po;apply mo_bin;exact rfl;exact rfl;apply bin_and;(first | exact k1 | exact k2);exact trivial) | refine wneqF ?_ | refine we_seq ?_ | (refine wR ?_;try simp only [oS]) | refine wo_nil ?_ | refine wM ?_ | refine wA ?_ | (apply wo_no;exact rfl) | refine wJ ?_ | refine wN ?_ | refine wD ?_ | refine wF ?_ | refine we_skip ?_)
   apply wo_sem (X:={ X with deaf:=true,wt:=.parked })
   exact rfl
   exact rfl
   exact rfl
   exact rfl
   exact trivial
   decide
   repeat (first | refine we_seq ?_ | (refine wR ?_;try simp only [oS]) | refine wo_nil ?_ | refine wM ?_ | refine wN ?_ | refine wD ?_)
   refine wo_call (.cons rfl .nil) trivial (uLast_tr (X:={ X with deaf:=true,wt:=.woken }) rfl rfl) ?_
   rintro v1 L3 x1 ⟨rfl,rfl,rfl⟩
   repeat (first | refine wneqF ?_ | refine we_seq ?_ | (refine wR ?_;try simp only [oS]) | refine wo_nil ?_ | refine wA ?_ | refine wT ?_)
   apply wo_enable (X:={ X with deaf:=true,wt:=.zero })
   exact trivial
   decide
   exact rfl
   repeat (first | (apply wo_po;apply mo_convPUo (c:=0) (m:=2) (by decide:(2:Nat)≠0);exact rfl;exact hs;omega;exact trivial) | (refine wR ?_;try simp only [oS]) | refine wo_nil ?_ | refine wM ?_)
   apply wo_acquire (X:={ X with deaf:=false,wt:=.zero })
   exact rfl
   exact rfl
   exact rfl
   exact hn
   exact trivial
   decide
   repeat (first | refine we_seq ?_ | (refine wR ?_;try simp only [oS]) | refine wo_nil ?_ | refine wM ?_ | refine wF ?_ | refine we_ret ?_ | refine we_skip ?_)
   (first | refine or0 Try.func56 Try.results56 hQ ?_ | refine on0 Try.func56 Try.results56 hQ ?_)
   exact ⟨rfl,congrArg (·::_) ends_eq,rfl⟩
  ·repeat (first | refine wo_nil ?_ | refine wF ?_ | refine we_skip ?_)
   have hok:(WaitI X (.pointer (some ⟨X.wg,0,none⟩)) L2).ok (some c):=fun c' h=>by obtain rfl:=Option.some.inj h;omega
   refine at_round (B:=mH cv) (I:=WaitI X (.pointer (some ⟨X.wg,0,none⟩)) L2) (R:=fun i'=>waitM X i'<waitM X ob) (some c) (hlt c (by omega)) hok ?_ .refl rfl
   exact ⟨rfl,trivial⟩
 ·rw [hY]
  obtain ⟨k1,k2,k3,k4⟩:=kk_bits (m:=0) (by omega)
  repeat (first | (apply wo_po;apply mo_bin;exact rfl;exact rfl;apply bin_and;(first | exact k1 | exact k2);exact trivial) | (apply wo_po;apply mo_bin;exact rfl;exact rfl;apply bin_shr;omega;exact k3;exact trivial) | (apply wo_po;apply mo_conv;exact rfl;(first | exact k4 | exact b5);exact gY) | refine weqlT ?_ | refine we_seq ?_ | (refine wR ?_;try simp only [oS]) | refine wo_nil ?_ | refine wM ?_ | refine wA ?_ | refine wT ?_)
  apply wo_enable (X:={ X with deaf:=true,wt:=.zero })
  exact trivial
  decide
  exact rfl
  repeat (first | (apply wo_po;apply mo_convPUo (c:=0) (m:=2) (by decide:(2:Nat)≠0);exact rfl;exact hs;omega;exact trivial) | (refine wR ?_;try simp only [oS]) | refine wo_nil ?_ | refine wM ?_)
  apply wo_acquire (X:={ X with deaf:=false,wt:=.zero })
  exact rfl
  exact rfl
  exact rfl
  exact hn
  exact trivial
  decide
  repeat (first | (apply wo_po;apply mo_bin;exact rfl;exact rfl;apply bin_and;(first | exact k1 | exact k2);exact rfl) | refine weqlT ?_ | refine wneqF ?_ | refine we_seq ?_ | (refine wR ?_;try simp only [oS]) | refine wo_nil ?_ | refine wM ?_ | (apply wo_no;exact rfl) | refine wK ?_ | refine wJ ?_ | refine wF ?_ | refine we_ret ?_ | refine we_skip ?_)
  (first | refine or0 Try.func56 Try.results56 hQ ?_ | refine on0 Try.func56 Try.results56 hQ ?_)
  exact ⟨rfl,congrArg (·::_) ends_eq,rfl⟩
end
end Go.Proofs.Ytmkkanmkjfnpdaa
namespace Go.PB
open Go.Conc
theorem star_cut {b o:Nat} {us vs:List Value} {L:List HProp} {h:Hp} (s:Star (arr b o (us++vs)::L) h):Star (arr b o us::arr b (o+us.length) vs::L) h:=by
 obtain ⟨h1,h2,s1,ha,hL⟩:=s
 have hus:∀ (i:Nat) v,us[i]?=some v→h1.own b (o+i)=some v:=fun i v e=>ha i v (by rw [List.getElem?_append_left (List.getElem?_eq_some_iff.1 e).1];exact e)
 have hvs:∀ (i:Nat) v,vs[i]?=some v→h1.own b (o+us.length+i)=some v:=fun i v e=>by
  have:=ha (us.length+i) v (by rw [List.getElem?_append_right (by omega)];simpa using e)
  rwa [← Nat.add_assoc] at this
 have dec:∀ b' o',Decidable (b'=b∧o'<o+us.length):=fun _ _=>inferInstance
 refine ⟨⟨fun b' o'=>if b'=b∧o'<o+us.length then h1.own b' o' else none,h1.ro,h1.obj,h1.shp⟩,⟨fun b' o'=>if b'=b∧o'<o+us.length then h2.own b' o' else h.own b' o',h2.ro,h2.obj,h2.shp⟩,
  ⟨s1.r1,s1.r2,fun b' o' v e=>?_,fun b' o' v e=>?_,fun b' o'=>?_,s1.b1,s1.b2,s1.bd,s1.s1,s1.s2⟩,fun i v e=>?_,
  ⟨fun b' o'=>if b'=b∧o'<o+us.length then none else h1.own b' o',fun _ _=>none,fun _=>none,fun _=>none⟩,h2,⟨fun _ _ _ e=>by simp at e,fun _ _ _ e=>e,fun b' o' v e=>?_,fun b' o' v e=>?_,fun b' o'=>?_,fun _ _ e=>by simp at e,fun _ _ e=>e,fun _=>.inl rfl,fun _ _ e=>by simp at e,fun _ _ e=>e⟩,fun i v e=>?_,hL⟩
 ·simp only at e;split at e
  ·exact s1.o1 _ _ _ e
  ·cases e
 ·simp only at e;split at e
  ·exact s1.o2 _ _ _ e
  ·exact e
 ·simp only
  by_cases hc:b'=b∧o'<o+us.length
  ·rw [if_pos hc,if_pos hc];exact s1.od _ _
  ·rw [if_neg hc];exact .inl rfl
 ·simp only
  rw [if_pos ⟨trivial,by have:=(List.getElem?_eq_some_iff.1 e).1;omega⟩]
  exact hus i v e
 ·simp only at e ⊢;split at e
  ·cases e
  ·rename_i hc;rw [if_neg hc];exact s1.o1 _ _ _ e
 ·simp only;split
  ·exact e
  ·exact s1.o2 _ _ _ e
 ·simp only;split
  ·exact .inl rfl
  ·exact s1.od _ _
 ·simp only
  rw [if_neg (by rintro ⟨_,h⟩;omega)]
  exact hvs i v e
theorem Has.trans {L F G:List HProp} {c d:HProp} (a:Has L c F) (b:Has F d G):∃ G',Has L d G':=by
 induction a generalizing G with
 | here=>exact ⟨_,.there b⟩
 | there _ ih =>
  cases b with
  | here=>exact ⟨_,.here⟩
  | there b=>obtain ⟨G',h⟩:=ih b;exact ⟨_,.there h⟩
theorem star_one {c:HProp} {h:Hp} (a:c h):Star [c] h :=
 ⟨h,Hp.empty,⟨fun _ _ _ e=>e,fun _ _ _ e=>(by cases e),fun _ _ _ e=>e,fun _ _ _ e=>(by cases e),fun _ _=>.inr rfl,fun _ _ e=>e,fun _ _ e=>(by cases e),fun _=>.inr rfl,fun _ _ e=>e,fun _ _ e=>(by cases e)⟩,a,trivial⟩
section
variable {P:Program} {B:Hand} {kd:CallKind} {n:Nat} {ops:Array Oper} {ord R:List Nat} {Pd:List Pn} {K:Post B} {e:Env} {z:Z} {L:List HProp} {x:B.X}
theorem ap_talk [MonoH B] [Lets B] {i:Nat} {o:Oper} {d:Option Nat} {Pd':List Pn} {cases:Array CommCase} {bl:Bool} {sh:CommShape} {Q:Value→List HProp→B.X→Prop} (ho:nth ops.toList i=some o) (hd:o.dst=d) (hdom:(R.all fun j=>(anc ops ops.size j).contains i)=true) (hpd':pdKeep ops i Pd=Pd') (hg:gYes (resE (readsOf n ops i) e) (guardOf n ops o))
  (hx:∀ t w,Agree (resE (readsOf n ops i) e) t→(execOp (evT t) (opOf o.op o.type)).runT P w #[]=(.ok (.comm cases bl sh) w,#[]))
  (ha:∀ h (O:Value→Hp→B.X→Prop),Star L h→(∀ v L' x' h',Q v L' x'→Star L' h'→O v h' x')→B.comm cases bl sh h x O)
  (hre:∀ v L' x',Q v L' x'→∀ p∈Pd',p.st=true∨∃ o,nth ops.toList p.i=some o∧gYes p.e (guardOf n ops o)∧Mo P p.e o.op o.type L' (fun v' L1=>v'=p.v∧L1=L'))
  (k:∀ v L' x',Q v L' x'→Ap P B kd n ops ord R Pd' K (setE d v e) z L' x'):Ap P B kd n ops ord (i::R) Pd K e z L x:=by
 subst hd
 subst hpd'
 have ho:=nth_at ho
 refine ap_loud_gen ho hdom hg fun idx t h ht ag s hw kk=>?_
 refine wr_talk ho hw (fun w=>by rw [execOp_of (op:=o.op) (ty:=o.type) _ rfl rfl];exact hx t w ag) ?_
 refine ha h _ s fun v L' x' h' r s'=>?_
 exact kk v L' x' h' s' (fun p hp hk=>by
  by_cases hs:p.st=true
  ·exact pd_still (Pd':=[p]) (by simp [hs]) p (by simp) hk
  ·rcases hre v L' x' r p hp with h | ⟨o,h1,h2,h3⟩
   ·exact absurd h hs
   ·exact ⟨o,nth_at h1,.inl ⟨h2,by rw [if_neg hs];exact h3⟩⟩) (k v L' x' r)
end
section
variable {P:Program} {cv:Value} {done:FuncId} {wgT:TypeId} {kd:CallKind} {n:Nat} {ops:Array Oper} {ord R:List Nat} {Pd:List Pn} {K:Post (mHand P cv done wgT)} {e:Env} {z:Z} {L:List HProp} {X:GX}
theorem ap_hear {ct el:TypeId} {dr:ChanDir} {zv:Value} {o:Operand} {i j:Nat} {d:Option Nat} {ty:TypeId} {pos:String} {aft:Array Edge} {gd:Option (Nat × Bool)} {Pd':List Pn} {c:Seat X.g.σ X.g.θ} {s:X.g.σ} {q:X.g.θ} [pu:Und P ct (.chan dr el)] [zr:Zer P el zv]
  (ho:nth ops.toList i=some ⟨d,.recv ct o false,ty,pos,aft,gd⟩) (hdom:(R.all fun j=>(anc ops ops.size j).contains i)=true) (hpd':pdKeep ops i Pd=Pd') (hg:gYes (resE (readsOf n ops i) e) (guardOf n ops ⟨d,.recv ct o false,ty,pos,aft,gd⟩))
  (hx:ev (resE (readsOf n ops i) e) o=some (.chan (some c.says))) (p:X.wt=.play) (hd:X.deaf=false) (hj:X.seats[j]?=some c) (st:c.st=.run s q) (tk:X.tok=none)
  (hre:∀ p∈Pd',p.st=true∨∃ o,nth ops.toList p.i=some o∧gYes p.e (guardOf n ops o)∧Mo P p.e o.op o.type (X.g.U s::L) (fun v' L1=>v'=p.v∧L1=X.g.U s::L))
  (k:Ap P (mHand P cv done wgT) kd n ops ord R Pd' K (setE d (X.g.says q) e) z (X.g.U s::L) (.game { X with tok:=some s,seats:=X.seats.set j { c with st:=.said q } })) :
  Ap P (mHand P cv done wgT) kd n ops ord (i::R) Pd K e z L (.game X) :=
 ap_talk (cases:=#[rcase c.says zv]) (bl:=true) (sh:=.recv false) (Q:=fun w L' x'=>w=X.g.says q∧L'=X.g.U s::L∧x'=.game { X with tok:=some s,seats:=X.seats.set j { c with st:=.said q } }) ho rfl hdom hpd' hg
  (fun t w ag=>by
   show (Sem.bind (underlying ct) fun dd=>match dd with
    | .chan _ el=>Sem.bind (zeroValue el) fun zv=>(pure (.comm #[{ chan:=evT t o,send:=none,zero:=zv }] true (.recv false)):Sem Next)
    | _=>stuck "receive: channel type expected").runT P w #[]=_
   rw [und_runT pu.ok]
   show (Sem.bind (zeroValue el) _).runT P w #[]=_
   rw [runT_zero zr.ok,ag.ev hx];rfl)
  (fun h O st' qq=>.inl ⟨rfl,X,j,c,rfl,p,hd,hj,.inl ⟨zv,s,q,rfl,rfl,st,tk,fun r h' hr hs=>qq _ _ _ h' ⟨rfl,rfl,rfl⟩ ⟨r,h,hs.swap,hr,st'⟩⟩⟩)
  (by rintro _ _ _ ⟨rfl,rfl,rfl⟩;exact hre) (by rintro _ _ _ ⟨rfl,rfl,rfl⟩;exact k)
end
end Go.PB
namespace Go.Proofs.Ytmkkanmkjfnpdaa
open Go Go.PB
attribute [local irreducible] Mo Bin Eql Tr Wo Ap Wle
abbrev cvT:Value:=.iface 187 (.agg #[])
abbrev tH:Hand:=tHand Try.prog cvT
abbrev mT:Hand:=mH cvT
abbrev seatR (sb says turn fin:Nat):HProp:=fro sb 0 [.chan (some turn),.chan (some fin),.chan (some says)]
abbrev gateV (sb:Nat):Value:=.iface 137 (.pointer (some ⟨sb,0,none⟩))
abbrev tx (g:Game) (says turn fin wg:Nat) (ph:Ph g.σ g.θ):TX:=⟨g,says,turn,fin,wg,ph⟩
section
variable {g:Game} {says turn fin wg sb:Nat} {L F G:List HProp}
theorem Rd.seat {k:Nat} {v:Value} (hS:Has L (seatR sb says turn fin) G) (hk:[Value.chan (some turn),.chan (some fin),.chan (some says)][k]?=some v):Rd L sb k v :=
 Rd.of hS (Rd.fro hk (Nat.zero_add k).symm)
theorem seat_tr {s:g.σ} {q:g.θ} {m:Nat} {mk:Int × Int} {f:g.σ→g.σ × g.θ} (hp:g.plan q=some (mk,f)) (hh:Has L (g.U s) F) (hS:Has F (seatR sb says turn fin) G) (hcut:∀ h,Star F h→g.Pv q h) :
  Tr Try.prog tH 120 [.pointer (some ⟨sb,0,none⟩),.agg #[.int .u8 mk.1,.int .i64 mk.2]] L (tx g says turn fin wg (.busy s q m)) fun v L' x'=>∃ m' s',m=m'+1∧g.ok s'∧v=.tuple #[]∧L'=g.U s'::F∧x'=tx g says turn fin wg (.busy (f s').1 (f s').2 m'):=by
 refine Tr.post (R:=fun v L' x'=>∃ m' s',m=m'+1∧g.ok s'∧v=.tuple #[]∧x'=tx g says turn fin wg (.busy (f s').1 (f s').2 m')∧∀ h,Star L' h→Star (g.U s'::F) h) ?_
  (by rintro v L' x' ⟨m',s',h1,h0,rfl,rfl,h2⟩;exact ⟨_,⟨m',s',h1,h0,rfl,rfl,rfl⟩,h2⟩)
 have hsays:g.says q=.agg #[.int .u8 mk.1,.int .i64 mk.2,.bool false]:=by unfold Game.says;rw [hp];rfl
 obtain ⟨L2,hS2⟩:=hh.trans hS
 have r0:=Rd.seat (k:=0) hS rfl
 have r1:=Rd.seat (k:=1) hS2 rfl
 have r1':=Rd.seat (k:=1) hS rfl
 have r2:=Rd.seat (k:=2) hS2 rfl
 refine tr_of_body Try.func120 rfl Try.ntmps120 (by simp) fun um Q _ hQ=>?_
 simp only [argE,Nat.zero_add,Nat.reduceAdd]
 repeat (first | (apply wo_mo;apply mo_box;exact rfl;exact trivial) | refine we_seq ?_ | (refine wR ?_;try simp only [oS]))
 rintro v' L' ⟨bb,rfl,rfl⟩
 refine wo_ent (arr bb 0 [.int .u8 mk.1,.int .i64 mk.2]::L) .refl ?_
 repeat (first | (apply wo_po;apply mo_load;exact rfl;(first | exact .there r1 | exact .there r2);exact trivial) | (apply wo_po;apply mo_loadA (vs:=[.int .u8 mk.1,.int .i64 mk.2]);exact rfl;exact rfl;exact Rds.all .here;exact trivial) | (apply wo_po;apply mo_build (pv:=[(0,_)]);exact rfl;exact .cons rfl .nil;exact rfl;exact trivial) | refine we_seq ?_ | (refine wR ?_;try simp only [oS]) | refine wo_nil ?_ | refine wM ?_ | refine wN ?_ | refine wD ?_)
 apply wo_say (q:=q) (R:=arr bb 0 [.int .u8 mk.1,.int .i64 mk.2]::F)
 exact rfl
 rw [hsays];exact rfl
 exact rfl
 exact .there hh
 exact trivial
 rw [show g.next q m=.said q m by unfold Game.next;rw [hp]]
 repeat (first | (apply wo_po;apply mo_load;exact rfl;(first | exact .there r0 | exact .there r1');exact trivial) | refine weqlT ?_ | refine weqlF ?_ | refine we_seq ?_ | (refine wR ?_;try simp only [oS]) | refine wo_nil ?_ | refine wM ?_ | refine wN ?_ | refine wD ?_ | (apply wo_po;apply mo_extract;exact rfl;exact rfl;exact gY) | refine wT ?_ | refine we_skip ?_ | refine we_block ?_)
 apply wo_wait
 exact rfl
 exact rfl
 exact hp
 exact trivial
 ·intro m' s' hm ho
  repeat (first | refine weqlT ?_ | refine weqlF ?_ | refine wo_nil ?_ | (apply wo_po;apply mo_extract;exact rfl;exact rfl;exact gY) | refine wT ?_ | refine we_skip ?_ | refine we_block ?_)
  (first | refine or0 Try.func120 Try.results120 hQ ?_ | refine on0 Try.func120 Try.results120 hQ ?_)
  exact ⟨m',s',hm,ho,rfl,rfl,fun h st=>star_map st (fun _ a=>a) (fun _=>star_drop)⟩
 ·repeat (first | (apply wo_po;apply mo_build (pv:=[]);exact rfl;exact .nil;exact rfl;exact trivial) | (apply wo_po;apply mo_makeInterface;exact rfl;exact trivial) | refine weqlT ?_ | refine weqlF ?_ | (refine wR ?_;try simp only [oS]) | refine wo_nil ?_ | (apply wo_po;apply mo_extract;exact rfl;exact rfl;exact gY) | refine wT ?_ | refine wF ?_ | refine we_block ?_)
  apply wo_panic
  exact rfl
  exact trivial
  exact fun t h _ _ st=>Pass.ok _ t h _ (show tH.cut _ h (tx g says turn fin wg (.cut q)) from ⟨q,rfl,rfl,star_one (hcut h (star_drop st))⟩)
end
end Go.Proofs.Ytmkkanmkjfnpdaa
namespace Go.Proofs.Ytmkkanmkjfnpdaa
open Go Go.PB
attribute [local irreducible] Mo Bin Eql Tr Wo Ap Wle
structure ThrOk (g:Game) (ini:g.σ→g.σ × g.θ) (fv:Value) (M:HProp):Prop where
 run:∃ f first cap,callee? fv=some (f,first,cap)∧Ent' Try.prog f∧∀ sb says turn fin wg s n F,g.ok s→Tr Try.prog tH f (first++[gateV sb]++cap) (g.U s::seatR sb says turn fin::M::F) (tx g says turn fin wg (.busy (ini s).1 (ini s).2 n)) fun v L' x' =>
  ∃ s' q' n',x'=tx g says turn fin wg (.busy s' q' n')∧g.plan q'=none∧∀ h,Star L' h→Star (g.U s'::seatR sb says turn fin::g.Fin q'::F) h
def cutC2 (ch:List PanicEntry) (h:Hp) (x:TX):Prop:=ch=[{ v:=cvT,recovered:=false }]∧∃ q,x.ph=.cut q∧Star [x.g.Fin q] h
structure ThrC (g:Game) (ini:g.σ→g.σ × g.θ) (fv:Value) (M:HProp):Prop where
 run:∃ f first cap,callee? fv=some (f,first,cap)∧Ent' Try.prog f∧∀ sb says turn fin wg s n F,g.ok s→TrC Try.prog tH f (first++[gateV sb]++cap) (g.U s::seatR sb says turn fin::M::F) (tx g says turn fin wg (.busy (ini s).1 (ini s).2 n)) (fun v L' x' =>
  ∃ s' q' n',x'=tx g says turn fin wg (.busy s' q' n')∧g.plan q'=none∧∀ h,Star L' h→Star (g.U s'::seatR sb says turn fin::g.Fin q'::F) h) cutC2
structure ThrR (g:Game) (ini:g.σ→g.σ × g.θ) (fv:Value) (M:HProp):Prop where
 fn:∃ f first cap,callee? fv=some (f,first,cap)
 go:∀ sb says turn fin wg s n ab tb xb (hc:Hp),g.ok s→Star [g.U s,seatR sb says turn fin,M,arr ab 0 [.pointer (some ⟨wg,0,none⟩)],arr tb 0 [fv],fro xb 0 [.pointer (some ⟨sb,0,none⟩)]] hc →
  Nonempty (Run Try.prog tH false (tEnd Try.prog 55) (goFr Try.prog { target:=.fn (.func 87) [.pointer (some ⟨ab,0,none⟩),.pointer (some ⟨tb,0,none⟩),.pointer (some ⟨xb,0,none⟩)].toArray,args:=#[] }) [] hc
   (tx g says turn fin wg (.busy (ini s).1 (ini s).2 n)))
theorem callee_one {fv:Value} {f:FuncId} {first cap:List Value} (h:callee? fv=some (f,first,cap)):fv.cells=#[fv]:=by
 cases fv <;> first | rfl | cases h
section
variable {g:Game} {says turn fin wg sb:Nat} {L F G:List HProp}
theorem rec_ok:∀ um h (x:TX) (L:List HProp) (Q:PB.End→FrameMode→Hp→TX→Prop),(um=.returning∨um=.panicking [{ v:=cvT,recovered:=false }])→Star L h→(∀ v um' h',settled um'=.returning→Star L h'→Q (.ret v) um' h' x)→Wf Try.prog tH 88 .deferred #[] um h x Q:=by
 intro um h x L Q hum hs hq
 refine wf_of_argE (args:=[]) (L:=L) Try.func88 rfl Try.ntmps88 (by simp) hs ?_
 simp only [argE]
 rcases hum with rfl | rfl
 ·repeat (first | refine we_seq ?_ | (refine wR ?_;try simp only [oS]))
  refine wo_recN trivial rfl rfl ?_
  repeat (first | refine we_seq ?_ | (refine wR ?_;try simp only [oS]) | refine wo_nil ?_ | refine wM ?_ | refine wA ?_ | (apply wo_po;apply mo_bin;exact rfl;exact rfl;apply bin_ne;apply eql_nil_nil;exact gY) | refine wF ?_ | refine we_skip ?_)
  exact at_ret0 (kd:=.deferred) (R:=fun v L' x'=>L'=L∧x'=x) Try.func88 Try.results88 (by rintro v L' x' h' ⟨rfl,rfl⟩ st;exact hq v _ h' rfl st) (.inr rfl:Ex.normal=.ret∨Ex.normal=.normal) ⟨rfl,rfl⟩
 ·repeat (first | refine we_seq ?_ | (refine wR ?_;try simp only [oS]))
  refine wo_recP trivial rfl rfl ?_
  repeat (first | (apply wo_po;apply mo_assertT;exact rfl;exact trivial) | (apply wo_mo;apply mo_alloc;exact trivial) | refine we_seq ?_ | (refine wR ?_;try simp only [oS]) | refine wo_nil ?_ | refine wM ?_ | refine wA ?_ | (apply wo_po;apply mo_extract;exact rfl;exact rfl;exact gY) | (apply wo_po;apply mo_bin;exact rfl;exact rfl;apply bin_ne;apply eql_iface_nil;exact gY) | refine wT ?_)
  rintro v' L' ⟨cb,rfl,rfl⟩
  repeat (first | (apply wo_pm;apply mo_storeA (c:=0) (k:=0) (a:=0) (vs:=[]);exact rfl;exact rfl;exact rfl;(intro w hw;simp [Value.cells] at hw);exact rfl;exact Nat.le_refl 0;exact .here;exact trivial) | refine we_seq ?_ | (refine wR ?_;try simp only [oS]) | refine wo_nil ?_ | refine wM ?_ | refine wA ?_ | (apply wo_po;apply mo_not;exact rfl;exact gY) | refine wF ?_ | refine we_skip ?_)
  exact at_ret0 (kd:=.deferred) (R:=fun v L' x'=>(∀ h,Star L' h→Star L h)∧x'=x) Try.func88 Try.results88 (by rintro v L' x' h' ⟨hl,rfl⟩ st;exact hq v _ h' rfl (hl _ st)) (.inr rfl:Ex.normal=.ret∨Ex.normal=.normal) ⟨fun h st=>star_drop st,rfl⟩
theorem goes_tr {ini:g.σ→g.σ × g.θ} {fv:Value} {M:HProp} {s:g.σ} {n ab tb xb:Nat} (TO:ThrOk g ini fv M) (hok:g.ok s) (hfin:∀ q h,g.Pv q h→g.Fin q h) {hc:Hp}
  (hs:Star [g.U s,seatR sb says turn fin,M,arr ab 0 [.pointer (some ⟨wg,0,none⟩)],arr tb 0 [fv],fro xb 0 [.pointer (some ⟨sb,0,none⟩)]] hc) :
  Nonempty (Run Try.prog tH false (tEnd Try.prog 55) (goFr Try.prog { target:=.fn (.func 87) [.pointer (some ⟨ab,0,none⟩),.pointer (some ⟨tb,0,none⟩),.pointer (some ⟨xb,0,none⟩)].toArray,args:=#[] }) [] hc
   (tx g says turn fin wg (.busy (ini s).1 (ini s).2 n))):=by
 obtain ⟨f,first,cap,hcal,en,tr⟩:=TO.run
 have e1:Enterable Try.prog 87:=(inferInstance:Ent' Try.prog 87).ok
 have e2:Enterable Try.prog 88:=(inferInstance:Ent' Try.prog 88).ok
 have e3:Enterable Try.prog 55:=(inferInstance:Ent' Try.prog 55).ok
 refine go_run (fR:=88) Try.func87 rfl Try.ntmps87 (by simp) Try.results87 e1 e2 e3 rec_ok (b:=True) ⟨rfl,fun _=>hfin⟩ hs ?_
 simp only [argE,Nat.zero_add,Nat.reduceAdd]
 have rx:∀ {L:List HProp},Rd ([arr ab 0 [.pointer (some ⟨wg,0,none⟩)],arr tb 0 [fv],fro xb 0 [.pointer (some ⟨sb,0,none⟩)]]) xb 0 (.pointer (some ⟨sb,0,none⟩)):=.there (.there (Rd.fro (k:=0) rfl rfl))
 repeat (first | refine we_seq ?_ | (refine wR ?_;try simp only [oS]) | refine wL ?_)
 refine wo_defer (first:=[]) (cap:=[]) (args:=[_]) (vs:=[.pointer (some ⟨wg,0,none⟩)]) rfl (.cons rfl .nil) trivial ?_
 repeat (first | refine we_seq ?_ | (refine wR ?_;try simp only [oS]) | refine wo_nil ?_)
 refine wo_defer (first:=[]) (cap:=[]) (args:=[]) (vs:=[]) rfl .nil trivial ?_
 repeat (first | (apply wo_po;apply mo_load;exact rfl;exact .there (.there (.there (rx (L:=[]))));exact trivial) | (apply wo_po;apply mo_makeInterface;exact rfl;exact trivial) | refine we_seq ?_ | (refine wR ?_;try simp only [oS]) | refine wo_nil ?_ | refine wL ?_)
 refine wo_callv (args:=[_]) (pk:=⟨fun ch t h x ⟨q,a,b,c⟩=>⟨rfl,b,q,a,.inr ⟨trivial,c⟩⟩⟩) rfl hcal (.cons rfl .nil) trivial (tr sb says turn fin wg s n _ hok) ?_
 rintro v L' x' ⟨s',q',n',rfl,hp,hL⟩
 refine wo_star _ hL ?_
 have r2:∀ {c:HProp},Rd (g.U s'::seatR sb says turn fin::g.Fin q'::[arr ab 0 [.pointer (some ⟨wg,0,none⟩)],arr tb 0 [fv],fro xb 0 [.pointer (some ⟨sb,0,none⟩)]]) sb 2 (.chan (some says)):=.there (Rd.fro (k:=2) rfl rfl)
 have r1:Rd (g.U s'::seatR sb says turn fin::g.Fin q'::[arr ab 0 [.pointer (some ⟨wg,0,none⟩)],arr tb 0 [fv],fro xb 0 [.pointer (some ⟨sb,0,none⟩)]]) sb 1 (.chan (some fin)):=.there (Rd.fro (k:=1) rfl rfl)
 have hsays:g.says q'=.agg #[.int .u8 0,.int .i64 0,.bool true]:=by unfold Game.says;rw [hp];rfl
 repeat (first | (apply wo_po;apply mo_load;exact rfl;exact .there (.there (.there (rx (L:=[]))));exact trivial) | (apply wo_po;apply mo_load;exact rfl;(first | exact r2 (c:=g.Fin q') | exact r1);exact trivial) | (apply wo_po;apply mo_build (pv:=[(1,_)]);exact rfl;exact .cons rfl .nil;exact rfl;exact trivial) | refine we_seq ?_ | (refine wR ?_;try simp only [oS]) | refine wo_nil ?_ | refine wN ?_ | refine wD ?_)
 apply wo_say (q:=q')
 exact rfl
 rw [hsays];exact rfl
 exact rfl
 exact .here
 exact trivial
 rw [show g.next q' n'=.over q' by unfold Game.next;rw [hp]]
 repeat (first | refine weqlT ?_ | refine weqlF ?_ | refine wo_nil ?_ | (apply wo_po;apply mo_extract;exact rfl;exact rfl;exact gY) | refine wT ?_ | refine we_skip ?_ | refine we_block ?_)
 exact fun t h _ _ st=>⟨rfl,q',rfl,star_map (star_drop st) (fun _ a=>a) (fun _ _=>trivial)⟩
theorem ThrOk.r {ini:g.σ→g.σ × g.θ} {fv:Value} {M:HProp} (TO:ThrOk g ini fv M) (hfin:∀ q h,g.Pv q h→g.Fin q h):ThrR g ini fv M :=
 ⟨let ⟨f,first,cap,h,_⟩:=TO.run;⟨f,first,cap,h⟩,fun sb says turn fin wg s n ab tb xb hc hok hs=>goes_tr TO hok hfin hs⟩
def lastC:Option (Int × Int)→List Value
 | some m=>[.int .u8 m.1,.int .i64 m.2,.bool false]
 | none=>[.int .u8 0,.int .i64 0,.bool true]
theorem lastC_says {q:g.θ}:(g.says q).cells.toList=lastC ((g.plan q).map (·.1)):=by
 unfold Game.says
 cases (g.plan q).map (·.1) <;> rfl
theorem lastC_len {o:Option (Int × Int)}:(lastC o).length=3:=by cases o <;> rfl
theorem lastC_one {o:Option (Int × Int)}:∀ w∈lastC o,one w=true:=by
 cases o <;> intro w hw <;> simp [lastC] at hw <;> rcases hw with rfl | rfl | rfl <;> rfl
abbrev gx (g:Game) (wg:Nat) (seats:List (Seat g.σ g.θ)) (tok:Option g.σ) (left:Nat) (ad:Nat):MX:=.game ⟨g,wg,seats,tok,left,ad,false,.play,none,0⟩
theorem run_tr {ini:g.σ→g.σ × g.θ} {fv:Value} {M:HProp} {s:g.σ} {seats:List (Seat g.σ g.θ)} {left:Nat} (TO:ThrR g ini fv M) (hok:g.ok s) (hlen:seats.length<1000) (hs:∀ h,Star F h→h.shp wg=some (132,2)) :
  Tr Try.prog mT 57 [.pointer (some ⟨sb,0,none⟩),fv,.pointer (some ⟨wg,0,none⟩)]
   (g.U s::M::arr sb 0 [.chan (some turn),.chan (some fin),.chan (some says),.int .u8 0,.int .i64 0,.bool false]::ob says newChan::ob turn newChan::ob fin newChan::F) (gx g wg seats (some s) left seats.length) fun v L' x' =>
   v=.tuple #[]∧L'=g.U (ini s).1::seatR sb says turn fin::arr sb 3 (lastC ((g.plan (ini s).2).map (·.1)))::F∧x'=gx g wg (seats++[⟨says,turn,fin,.said (ini s).2⟩]) (some (ini s).1) left (seats.length+1):=by
 refine Tr.post (R:=fun v L' x'=>v=.tuple #[]∧x'=gx g wg (seats++[⟨says,turn,fin,.said (ini s).2⟩]) (some (ini s).1) left (seats.length+1)∧∀ h,Star L' h→Star (g.U (ini s).1::seatR sb says turn fin::arr sb 3 (lastC ((g.plan (ini s).2).map (·.1)))::F) h) ?_
  (by rintro v L' x' ⟨rfl,rfl,h2⟩;exact ⟨_,⟨rfl,rfl,rfl⟩,h2⟩)
 have hfv:fv.cells=#[fv]:=by obtain ⟨f,first,cap,hc⟩:=TO.fn;exact callee_one hc
 refine tr_of_body Try.func57 rfl Try.ntmps57 (by simp) fun um Q _ hQ=>?_
 simp only [argE,Nat.zero_add,Nat.reduceAdd]
 repeat (first | (apply wo_mo;apply mo_box;exact rfl;exact trivial) | refine we_seq ?_ | (refine wR ?_;try simp only [oS]))
 rintro v' L' ⟨xb,rfl,rfl⟩
 repeat (first | (apply wo_mo;apply mo_box;exact rfl;exact trivial))
 rintro v' L' ⟨tb,rfl,rfl⟩
 repeat (first | (apply wo_mo;apply mo_box;exact rfl;exact trivial))
 rintro v' L' ⟨ab,rfl,rfl⟩
 rw [hfv]
 let L0:List HProp:=arr ab 0 [.pointer (some ⟨wg,0,none⟩)]::arr tb 0 [fv]::arr xb 0 [.pointer (some ⟨sb,0,none⟩)]::g.U s::M::arr sb 0 [.chan (some turn),.chan (some fin),.chan (some says),.int .u8 0,.int .i64 0,.bool false]::ob says newChan::ob turn newChan::ob fin newChan::F
 refine wo_ent L0 .refl ?_
 repeat (first | refine we_seq ?_ | (refine wR ?_;try simp only [oS]) | refine wo_nil ?_ | refine wL ?_)
 refine wo_call (.cons rfl (.cons rfl .nil)) trivial (wgAdd_tr (X:=⟨g,wg,seats,some s,left,seats.length,false,.play,none,0⟩) rfl hlen rfl rfl rfl (fun h st=>hs h (star_drop (star_drop (star_drop (star_drop (star_drop (star_drop (star_drop (star_drop (star_drop st))))))))))) ?_
 rintro v1 L1 x1 ⟨rfl,rfl,rfl⟩
 repeat (first | (apply wo_po;apply mo_makeFunc (first:=[]) (cap:=[_,_,_]) (vf:=[]);exact .nil;exact .cons rfl (.cons rfl (.cons rfl .nil));exact trivial) | refine we_seq ?_ | (refine wR ?_;try simp only [oS]) | refine wo_nil ?_)
 refine wo_star (arr sb 0 [.chan (some turn),.chan (some fin),.chan (some says)]::arr sb 3 [.int .u8 0,.int .i64 0,.bool false]::arr ab 0 [.pointer (some ⟨wg,0,none⟩)]::arr tb 0 [fv]::arr xb 0 [.pointer (some ⟨sb,0,none⟩)]::g.U s::M::ob says newChan::ob turn newChan::ob fin newChan::F)
  (fun h st=>star_cut (us:=[.chan (some turn),.chan (some fin),.chan (some says)]) (vs:=[.int .u8 0,.int .i64 0,.bool false]) (((.there (.there (.there (.there (.there .here))))):Has L0 _ _).star st)) ?_
 refine wo_frz (b:=sb) (o:=0) .here ?_
 refine wo_frz (b:=xb) (o:=0) (.there (.there (.there (.there .here)))) ?_
 refine wo_star _ (fun h st=>fro_two (((.there (.there .here)):Has _ (seatR sb says turn fin) _).star (fro_two st))) ?_
 refine wo_start (s':=(ini s).1) (q':=(ini s).2) (M:=[g.U s,seatR sb says turn fin,M,arr ab 0 [.pointer (some ⟨wg,0,none⟩)],arr tb 0 [fv],fro xb 0 [.pointer (some ⟨sb,0,none⟩)]]) (cap:=[_,_,_]) rfl trivial rfl rfl rfl rfl rfl
  (fun h st=>star_map (Ent.star (.take (.there (.there (.there (.there (.there (.there (.there (.there (.there .here))))))))) (.take (.there (.there (.there (.there (.there (.there (.there (.there (.there .here))))))))) (.take (.there (.there (.there (.there (.there (.there (.there (.there (.there .here))))))))) (.take (.there (.there (.there (.there (.there (.there (.there .here))))))) (.take .here (.take (.there (.there (.there (.there (.there (.there .here)))))) (.take (.there (.there (.there (.there .here)))) (.take (.there (.there (.there (.there .here)))) (.take (.there .here) .refl))))))))) st) (fun _ a=>a) (fun _ s1=>star_map s1 (fun _ a=>a) fun _ s2=>star_map s2 (fun _ a=>a) fun _ s3=>star_shut (M:=[_,_,_,_,_,_]) s3))
  (fun hc st=>TO.go _ _ _ _ _ _ _ _ _ _ _ hok st) ?_
 have rx:∀ {c:HProp},Rd (c::fro xb 0 [.pointer (some ⟨sb,0,none⟩)]::arr sb 3 [.int .u8 0,.int .i64 0,.bool false]::F) xb 0 (.pointer (some ⟨sb,0,none⟩)):=.there (Rd.fro (k:=0) rfl rfl)
 have r2:Rd (seatR sb says turn fin::fro xb 0 [.pointer (some ⟨sb,0,none⟩)]::arr sb 3 [.int .u8 0,.int .i64 0,.bool false]::F) sb 2 (.chan (some says)):=Rd.fro (k:=2) rfl rfl
 repeat (first | refine wo_nil ?_)
 refine we_draw (List.range' 0 9) (by kernel_rfl) ?_
 repeat (first | (apply ap_read;exact rfl;exact rfl;exact trivial;apply mo_load;exact rfl;(first | exact rx | exact r2)) | refine aN ?_ | refine aD ?_)
 refine ap_hear (j:=seats.length) (c:=⟨says,turn,fin,.run (ini s).1 (ini s).2⟩) (s:=(ini s).1) (q:=(ini s).2) rfl rfl rfl trivial rfl rfl rfl (by simp) rfl rfl ?_ ?_
 ·intro p hp
  replace hp:=(List.mem_filter.1 hp).1
  simp only [List.mem_cons,List.not_mem_nil,or_false] at hp
  rcases hp with rfl | rfl | rfl | rfl | rfl <;> first | exact .inl rfl | exact .inr ⟨_,rfl,trivial,mo_load rfl (.there (by first | exact rx | exact r2))⟩
 have hset:(seats++[(⟨says,turn,fin,.run (ini s).1 (ini s).2⟩:Seat g.σ g.θ)]).set seats.length ⟨says,turn,fin,.said (ini s).2⟩=seats++[⟨says,turn,fin,.said (ini s).2⟩]:=by simp
 have hc:=lastC_says (g:=g) (q:=(ini s).2)
 have hov:over [.int .u8 0,.int .i64 0,.bool false] 0 (g.says (ini s).2).cells.toList=lastC ((g.plan (ini s).2).map (·.1)):=by
  rw [hc];unfold over;simp [lastC_len]
 show Ap _ mT _ _ _ _ _ _ _ _ _ (g.U (ini s).1::seatR sb says turn fin::fro xb 0 [.pointer (some ⟨sb,0,none⟩)]::arr sb 3 [.int .u8 0,.int .i64 0,.bool false]::F) (gx g wg ((seats++[(⟨says,turn,fin,.run (ini s).1 (ini s).2⟩:Seat g.σ g.θ)]).set seats.length ⟨says,turn,fin,.said (ini s).2⟩) (some (ini s).1) left (seats.length+1))
 rw [hset]
 repeat (first | refine aN ?_ | refine aD ?_)
 refine ap_loud rfl rfl rfl rfl rfl trivial (mo_storeA (n:=3) (c:=3) (k:=0) (a:=3) (vs:=[.int .u8 0,.int .i64 0,.bool false]) rfl rfl (by rw [← Array.length_toList,hc];exact lastC_len) (by rw [hc];exact lastC_one) rfl (Nat.le_refl 3) (.there (.there (.there .here)))) ?_
 rintro v' L' ⟨rfl,rfl⟩
 rw [hov]
 refine ap_end ?_
 (first | refine or0 Try.func57 Try.results57 hQ ?_ | refine on0 Try.func57 Try.results57 hQ ?_)
 exact ⟨rfl,rfl,fun h st=>Ent.star (.take .here (.take .here (.take (.there .here) (.drop .refl)))) st⟩
end
end Go.Proofs.Ytmkkanmkjfnpdaa
namespace Go.PB
theorem zip_set {α β γ:Type} {f:α→β→γ} {b:β}:∀ {k:Nat} {xs:List α} {ys:List β} {a:α},xs[k]?=some a→List.zipWith f xs (ys.set k b)=(List.zipWith f xs ys).set k (f a b)
 | _,[],_,_,h=>by simp at h
 | _,x::xs,[],_,_=>rfl
 | 0,x::xs,y::ys,a,h=>by simp at h;subst h;rfl
 | k+1,x::xs,y::ys,a,h=>by simp only [List.set_cons_succ,List.zipWith_cons_cons];rw [zip_set (by simpa using h)]
theorem set_same {α:Type} {l:List α} {k:Nat} {a:α} (h:l[k]?=some a):l.set k a=l:=by
 obtain ⟨h1,h2⟩:=List.getElem?_eq_some_iff.1 h
 subst h2
 exact List.set_getElem_self h1
end Go.PB
namespace Go.Proofs.Ytmkkanmkjfnpdaa
open Go Go.PB
attribute [local irreducible] Mo Bin Eql Tr Wo Ap Wle
structure PS (g:Game) where
 s:g.σ
 qs:List g.θ
 tr:List (Nat × (Int × Int))
def takeF {g:Game} (p:PS g) (k:Int):PS g × Bool :=
 if k<0 then (p,false) else
 match p.qs[k.toNat]? with
 | none=>(p,false)
 | some q=>match g.plan q with
  | none=>(p,false)
  | some (m,f)=>if p.tr.length=16384 then (p,false) else (⟨(f p.s).1,p.qs.set k.toNat (f p.s).2,p.tr++[(k.toNat,m)]⟩,true)
structure SId where
 sb:Nat
 says:Nat
 turn:Nat
 fin:Nat
def trCP (tr:List (Nat × (Int × Int))):List Value:=(tr.map fun t=>[.int .i64 (t.1:Nat),.int .u8 t.2.1,.int .i64 t.2.2]).flatten
theorem trCP_len {tr:List (Nat × (Int × Int))}:(trCP tr).length=tr.length*3:=flat_len (f:=fun t:Nat × (Int × Int)=>[Value.int .i64 (t.1:Nat),.int .u8 t.2.1,.int .i64 t.2.2]) (k:=3) (fun _=>rfl) tr
theorem trCP_app {tr:List (Nat × (Int × Int))} {k:Nat} {m:Int × Int}:trCP (tr++[(k,m)])=trCP tr++[.int .i64 (k:Nat),.int .u8 m.1,.int .i64 m.2]:=by simp [trCP]
def ptrs (ids:List SId):List Value:=ids.map fun i=>.pointer (some ⟨i.sb,0,none⟩)
abbrev lastQ (g:Game) (q:g.θ):List Value:=lastC ((g.plan q).map (·.1))
def seatC (g:Game) (i:SId) (q:g.θ):HProp:=all [seatR i.sb i.says i.turn i.fin,arr i.sb 3 (lastQ g q)]
def seatCs (g:Game) (ids:List SId) (qs:List g.θ):List HProp:=List.zipWith (seatC g) ids qs
def seatS {g:Game} (i:SId) (q:g.θ):Seat g.σ g.θ:=⟨i.says,i.turn,i.fin,.said q⟩
def seatSs {g:Game} (ids:List SId) (qs:List g.θ):List (Seat g.σ g.θ):=List.zipWith seatS ids qs
section
variable {g:Game} {wg pb:Nat} {ss ts cs:Value} {ids:List SId} {p:PS g} {F:List HProp}
abbrev playL (g:Game) (pb:Nat) (ss ts cs:Value) (ids:List SId) (p:PS g) (F:List HProp):List HProp :=
 g.U p.s::arr pb 0 [ss,ts,cs]::vec 1 ss (ptrs ids)::vec 3 ts (trCP p.tr)::all (seatCs g ids p.qs)::F
abbrev playX (g:Game) (wg:Nat) (ids:List SId) (p:PS g):MX:=gx g wg (seatSs ids p.qs) (some p.s) (16384-p.tr.length) ids.length
theorem takeF_len (k:Int):(takeF p k).1.qs.length=p.qs.length:=by
 unfold takeF
 split
 ·rfl
 split
 ·rfl
 split
 ·rfl
 split
 ·rfl
 ·simp
theorem takeF_le (h:p.tr.length≤16384) (k:Int):(takeF p k).1.tr.length≤16384:=by
 unfold takeF
 split
 ·exact h
 split
 ·exact h
 split
 ·exact h
 split
 ·exact h
 ·simp;omega
theorem take_out {k:Int} (hl:ids.length=p.qs.length) (hk:k<0∨(ids.length:Int)≤k) :
  Tr Try.prog mT 58 [.pointer (some ⟨pb,0,none⟩),.int .i64 k] (playL g pb ss ts cs ids p F) (playX g wg ids p) fun v L' x'=>v=.bool false∧L'=playL g pb ss ts cs ids p F∧x'=playX g wg ids p:=by
 refine tr_pure (of_has (.there (.there .here)) (vec_shape (by omega))) ?_
 rintro ⟨a,n,c,rfl,hn,_⟩
 have hn:n=ids.length:=by simp [ptrs] at hn;omega
 subst hn
 by_cases h0:k<0
 ·refine tr_of_body Try.func58 rfl Try.ntmps58 (by simp) fun um Q _ hQ=>?_
  simp only [argE,Nat.zero_add,Nat.reduceAdd]
  repeat (first | refine wlssT ?_ | refine we_seq ?_ | (refine wR ?_;try simp only [oS]) | refine wo_nil ?_ | refine wM ?_ | refine wA ?_ | (apply wo_no;exact rfl) | refine wK ?_ | refine wT ?_ | refine we_ret ?_)
  (first | refine or1 Try.func58 Try.results58 hQ rfl ?_ | refine on1 Try.func58 Try.results58 hQ rfl ?_)
  exact ⟨rfl,rfl,rfl⟩
 ·refine tr_of_body Try.func58 rfl Try.ntmps58 (by simp) fun um Q _ hQ=>?_
  simp only [argE,Nat.zero_add,Nat.reduceAdd]
  repeat (first | refine wlssF ?_ | refine wgeqT ?_ | refine we_seq ?_ | (refine wR ?_;try simp only [oS]) | refine wo_nil ?_ | refine wM ?_ | refine wA ?_ | (apply wo_no;exact rfl) | refine wK ?_ | refine wJ ?_ | refine wN ?_ | refine wD ?_ | refine wL ?_ | refine wE ?_ | refine wT ?_ | refine we_ret ?_)
  (first | refine or1 Try.func58 Try.results58 hQ rfl ?_ | refine on1 Try.func58 Try.results58 hQ rfl ?_)
  exact ⟨rfl,rfl,rfl⟩
theorem seat_pick {k:Nat} {i:SId} {q:g.θ} {L:List HProp} {h:Hp} (hi:ids[k]?=some i) (hq:p.qs[k]?=some q) (st:Star (all (seatCs g ids p.qs)::L) h) :
  Star (seatR i.sb i.says i.turn i.fin::arr i.sb 3 (lastQ g q)::all ((seatCs g ids p.qs).eraseIdx k)::L) h:=by
 have e:(seatCs g ids p.qs)[k]?=some (seatC g i q):=by simp [seatCs,List.getElem?_zipWith,hi,hq]
 exact star_open (M:=[_,_]) (star_pick e st)
theorem seat_put {k:Nat} {i:SId} {q q':g.θ} {L:List HProp} {h:Hp} (hi:ids[k]?=some i) (hq:p.qs[k]?=some q) (st:Star (seatR i.sb i.says i.turn i.fin::arr i.sb 3 (lastQ g q')::all ((seatCs g ids p.qs).eraseIdx k)::L) h) :
  Star (all (seatCs g ids (p.qs.set k q'))::L) h:=by
 have hlt:k<(seatCs g ids p.qs).length:=by
  have h1:=(List.getElem?_eq_some_iff.1 hi).1
  have h2:=(List.getElem?_eq_some_iff.1 hq).1
  simp [seatCs];omega
 have e:seatCs g ids (p.qs.set k q')=(seatCs g ids p.qs).set k (seatC g i q'):=zip_set hi
 rw [e]
 exact star_put hlt (star_shut (M:=[_,_]) st)
theorem take_no {k:Nat} {i:SId} {q:g.θ} (hi:ids[k]?=some i) (hq:p.qs[k]?=some q) (hno:g.plan q=none∨p.tr.length=16384) :
  Tr Try.prog mT 58 [.pointer (some ⟨pb,0,none⟩),.int .i64 (k:Nat)] (playL g pb ss ts cs ids p F) (playX g wg ids p) fun v L' x'=>v=.bool false∧L'=playL g pb ss ts cs ids p F∧x'=playX g wg ids p:=by
 have hk:=(List.getElem?_eq_some_iff.1 hi).1
 refine tr_pure (of_has (.there (.there .here)) (vec_shape (by omega))) ?_
 rintro ⟨a,n,c,rfl,hn,_,hnz,hy⟩
 have hn:n=ids.length:=by simp [ptrs] at hn;omega
 subst hn
 refine tr_pure (of_has (.there (.there (.there .here))) (vec_shape (by omega))) ?_
 rintro ⟨ta,tn,tc,rfl,htn,_⟩
 have htn:tn=p.tr.length:=by rw [trCP_len] at htn;omega
 subst htn
 cases a with
 | none=>have:=hnz rfl;omega
 | some ad =>
 obtain ⟨b,o,sp⟩:=ad
 have:=hy _ rfl
 simp only [Addr.mk.injEq,true_and] at this
 subst this
 refine Tr.post (R:=fun v L' x'=>v=.bool false∧x'=playX g wg ids p∧∀ h,Star L' h→Star (playL g pb (.slice (some ⟨b,o,none⟩) ids.length c) (.slice ta p.tr.length tc) cs ids p F) h) ?_
  (by rintro v L' x' ⟨rfl,rfl,h2⟩;exact ⟨_,⟨rfl,rfl,rfl⟩,h2⟩)
 let L1:List HProp:=seatR i.sb i.says i.turn i.fin::arr i.sb 3 (lastQ g q)::all ((seatCs g ids p.qs).eraseIdx k)::g.U p.s::arr pb 0 [.slice (some ⟨b,o,none⟩) ids.length c,.slice ta p.tr.length tc,cs]::vec 1 (.slice (some ⟨b,o,none⟩) ids.length c) (ptrs ids)::vec 3 (.slice ta p.tr.length tc) (trCP p.tr)::F
 refine tr_star L1 (fun h st=>seat_pick hi hq (((.there (.there (.there (.there .here)))):Has (playL g pb _ _ cs ids p F) _ _).star st)) ?_
 have hback:∀ h,Star L1 h→Star (playL g pb (.slice (some ⟨b,o,none⟩) ids.length c) (.slice ta p.tr.length tc) cs ids p F) h:=fun h st=>by
  have s1:=seat_put (q':=q) hi hq st
  have e:p.qs.set k q=p.qs:=set_same hq
  rw [e] at s1
  exact Ent.star (.take (.there .here) (.take (.there .here) (.take (.there .here) (.take (.there .here) (.take .here .refl))))) s1
 have rs:Rd L1 b (o+k) (.pointer (some ⟨i.sb,0,none⟩)):=rd_vec (cs:=ptrs ids) (.there (.there (.there (.there (.there .here))))) (by simp [ptrs,hi])
 have hlast:∃ m1 m2 q3,lastQ g q=[.int .u8 m1,.int .i64 m2,.bool q3]∧(q3=true∨(q3=false∧p.tr.length=16384)):=by
  unfold lastQ
  cases hp:g.plan q with
  | none=>exact ⟨_,_,_,rfl,.inl rfl⟩
  | some mf =>
   refine ⟨_,_,_,rfl,.inr ⟨rfl,hno.resolve_left (by rw [hp];simp)⟩⟩
 obtain ⟨m1,m2,q3,hl,hq3⟩:=hlast
 have rl:Rd L1 i.sb 5 (.bool q3):=Rd.of (.there .here) (by rw [hl];exact Rd.row (k:=2) rfl rfl)
 rcases hq3 with rfl | ⟨rfl,htr⟩
 ·refine tr_of_body Try.func58 rfl Try.ntmps58 (by simp) fun um Q _ hQ=>?_
  simp only [argE,Nat.zero_add,Nat.reduceAdd]
  repeat (first | (apply wo_po;apply mo_index1;exact rfl;exact rfl;omega;exact gY) | (apply wo_po;apply mo_load;exact rfl;(first | exact rs | exact rl | exact Rd.of (.there (.there (.there (.there .here)))) (Rd.row0 rfl));exact gY) | refine wlssF ?_ | refine wgeqF ?_ | refine we_seq ?_ | (refine wR ?_;try simp only [oS]) | refine wo_nil ?_ | refine wM ?_ | refine wA ?_ | (apply wo_no;exact rfl) | refine wK ?_ | refine wJ ?_ | refine wN ?_ | refine wD ?_ | refine wE ?_ | refine wT ?_ | refine we_ret ?_)
  (first | refine or1 Try.func58 Try.results58 hQ rfl ?_ | refine on1 Try.func58 Try.results58 hQ rfl ?_)
  exact ⟨rfl,rfl,hback⟩
 ·refine tr_of_body Try.func58 rfl Try.ntmps58 (by simp) fun um Q _ hQ=>?_
  simp only [argE,Nat.zero_add,Nat.reduceAdd]
  repeat (first | (apply wo_po;apply mo_index1;exact rfl;exact rfl;omega;exact gY) | (apply wo_po;apply mo_load;exact rfl;(first | exact rs | exact rl | exact Rd.of (.there (.there (.there (.there .here)))) (Rd.row0 rfl));exact gY) | refine wlssF ?_ | refine wgeqF ?_ | refine weqlT ?_ | refine we_seq ?_ | (refine wR ?_;try simp only [oS]) | refine wo_nil ?_ | refine wM ?_ | refine wA ?_ | refine wJ ?_ | refine wN ?_ | refine wD ?_ | refine wE ?_ | refine wT ?_ | refine we_ret ?_)
  (first | refine or1 Try.func58 Try.results58 hQ rfl ?_ | refine on1 Try.func58 Try.results58 hQ rfl ?_)
  exact ⟨rfl,rfl,hback⟩
theorem take_yes {k:Nat} {i:SId} {q:g.θ} {m:Int × Int} {f:g.σ→g.σ × g.θ} (hl:ids.length=p.qs.length) (hi:ids[k]?=some i) (hq:p.qs[k]?=some q) (hpl:g.plan q=some (m,f)) (htr:p.tr.length<16384) (hok:g.ok p.s) :
  Tr Try.prog mT 58 [.pointer (some ⟨pb,0,none⟩),.int .i64 (k:Nat)] (playL g pb ss ts cs ids p F) (playX g wg ids p) fun v L' x'=>∃ ts',v=.bool true∧L'=playL g pb ss ts' cs ids ⟨(f p.s).1,p.qs.set k (f p.s).2,p.tr++[(k,m)]⟩ F∧x'=playX g wg ids ⟨(f p.s).1,p.qs.set k (f p.s).2,p.tr++[(k,m)]⟩:=by
 have hk:=(List.getElem?_eq_some_iff.1 hi).1
 refine tr_pure (of_has (.there (.there .here)) (vec_shape (by omega))) ?_
 rintro ⟨a,n,c,rfl,hn,_,hnz,hy⟩
 have hn:n=ids.length:=by simp [ptrs] at hn;omega
 subst hn
 refine tr_pure (of_has (.there (.there (.there .here))) (vec_shape (by omega))) ?_
 rintro ⟨ta,tn,tc,rfl,htn,_⟩
 have htn:tn=p.tr.length:=by rw [trCP_len] at htn;omega
 subst htn
 cases a with
 | none=>have:=hnz rfl;omega
 | some ad =>
 obtain ⟨b,o,sp⟩:=ad
 have:=hy _ rfl
 simp only [Addr.mk.injEq,true_and] at this
 subst this
 refine Tr.post (R:=fun v L' x'=>∃ ts',v=.bool true∧x'=playX g wg ids ⟨(f p.s).1,p.qs.set k (f p.s).2,p.tr++[(k,m)]⟩∧∀ h,Star L' h→Star (playL g pb (.slice (some ⟨b,o,none⟩) ids.length c) ts' cs ids ⟨(f p.s).1,p.qs.set k (f p.s).2,p.tr++[(k,m)]⟩ F) h) ?_
  (by rintro v L' x' ⟨ts',rfl,rfl,h2⟩;exact ⟨_,⟨ts',rfl,rfl,rfl⟩,h2⟩)
 have hlq:lastQ g q=[.int .u8 m.1,.int .i64 m.2,.bool false]:=by unfold lastQ;rw [hpl];rfl
 let er:=all ((seatCs g ids p.qs).eraseIdx k)
 let L1:List HProp:=seatR i.sb i.says i.turn i.fin::arr i.sb 3 [.int .u8 m.1,.int .i64 m.2,.bool false]::arr pb 0 [.slice (some ⟨b,o,none⟩) ids.length c,.slice ta p.tr.length tc,cs]::vec 3 (.slice ta p.tr.length tc) (trCP p.tr)::vec 1 (.slice (some ⟨b,o,none⟩) ids.length c) (ptrs ids)::g.U p.s::er::F
 refine tr_star L1 (fun h st=>by have:=seat_pick hi hq (((.there (.there (.there (.there .here)))):Has (playL g pb _ _ cs ids p F) _ _).star st);rw [hlq] at this;exact Ent.star (.take .here (.take .here (.take (.there (.there .here)) (.take (.there (.there (.there .here))) (.take (.there (.there .here)) (.take (.there .here) (.take .here .refl))))))) this) ?_
 have rs:Rd L1 b (o+k) (.pointer (some ⟨i.sb,0,none⟩)):=rd_vec (cs:=ptrs ids) (.there (.there (.there (.there .here)))) (by simp [ptrs,hi])
 have rl:Rd L1 i.sb 5 (.bool false):=.there (Rd.row (k:=2) rfl rfl)
 have rt:Rd L1 i.sb 0 (.chan (some i.turn)):=Rd.fro (k:=0) rfl rfl
 have hsz:(seatSs ids p.qs).length=ids.length:=by simp [seatSs];omega
 have hsk:(seatSs ids p.qs)[k]?=some (⟨i.says,i.turn,i.fin,.said q⟩:Seat g.σ g.θ):=by simp [seatSs,List.getElem?_zipWith,hi,hq,seatS]
 refine tr_of_body Try.func58 rfl Try.ntmps58 (by simp) fun um Q _ hQ=>?_
 simp only [argE,Nat.zero_add,Nat.reduceAdd]
 repeat (first | (apply wo_po;apply mo_index1;exact rfl;exact rfl;omega;exact gY) | (apply wo_po;apply mo_load;exact rfl;(first | exact rs | exact rl | exact Rd.of (.there (.there .here)) (Rd.row0 rfl));exact gY) | refine wlssF ?_ | refine wgeqF ?_ | refine weqlF ?_ | refine we_seq ?_ | (refine wR ?_;try simp only [oS]) | refine wo_nil ?_ | refine wM ?_ | refine wA ?_ | refine wJ ?_ | refine wN ?_ | refine wD ?_ | refine wE ?_ | refine wF ?_ | refine we_skip ?_)
 refine we_draw (List.range' 0 19) (by kernel_rfl) ?_
 repeat (first | (apply ap_read;exact rfl;exact rfl;exact trivial;apply mo_load;exact rfl;exact Rd.of (.there (.there .here)) (Rd.row0 rfl)) | (apply ap_read;exact rfl;exact rfl;exact trivial;apply mo_loadA (vs:=[.int .u8 m.1,.int .i64 m.2]);exact rfl;exact rfl;exact Rds.row (k:=0) (.there .here) (by intro i v hv;match i,hv with | 0,hv=>exact hv | 1,hv=>exact hv)) | (apply ap_pure;exact rfl;exact rfl;exact trivial;intro L;apply mo_build (pv:=[(0,_),(1,_)]);exact rfl;exact .cons rfl (.cons rfl .nil);exact rfl) | refine aM ?_ | refine aN ?_ | refine aD ?_)
 have hone:∀ v∈[Value.int .i64 (k:Nat),.int .u8 m.1,.int .i64 m.2],one v=true:=by intro v hv;simp at hv;rcases hv with rfl | rfl | rfl <;> rfl
 refine ap_loudR rfl rfl rfl rfl trivial (mo_buildSlice (sz:=3) (vs:=[.agg #[.int .i64 (k:Nat),.int .u8 m.1,.int .i64 m.2]]) rfl (.cons rfl .nil) rfl (by intro v hv;cases (List.mem_singleton.1 hv);exact rfl) (by omega)) ?_ ?_
 ·rintro v L ⟨nb,rfl,rfl⟩ p hp
  replace hp:=(List.mem_filter.1 hp).1
  simp only [List.mem_cons,List.not_mem_nil,or_false] at hp
  rcases hp with rfl | rfl | rfl | rfl | rfl | rfl | rfl | rfl | rfl | rfl | rfl | rfl | rfl <;> first | exact .inl rfl | exact .inr ⟨_,rfl,trivial,mo_load rfl (Rd.of (.there (.there (.there .here))) (Rd.row0 rfl))⟩ | exact .inr ⟨_,rfl,trivial,mo_loadA rfl rfl (Rds.row (k:=0) (.there (.there .here)) (by intro i v hv;match i,hv with | 0,hv=>exact hv | 1,hv=>exact hv))⟩
 rintro v' L' ⟨nb,rfl,rfl⟩
 refine ap_loud rfl rfl rfl rfl rfl trivial (mo_append (sz:=3) (new:=[.int .i64 (k:Nat),.int .u8 m.1,.int .i64 m.2]) rfl rfl rfl rfl (.there (.there (.there (.there .here)))) rfl (.inr ⟨_,_,rfl,Rds.all .here⟩) hone (by simp only [sliceLen];omega)) ?_
 rintro v' L' rfl
 refine ap_know (of_has .here (vec_shape (by omega))) ?_
 rintro ⟨ua,un,uc,rfl,_⟩
 repeat (first | refine aN ?_ | refine aD ?_)
 refine ap_loud rfl rfl rfl rfl rfl trivial (mo_store rfl rfl rfl (Wt.row0 (k:=1) (.there (.there (.there (.there .here)))) (Nat.lt_of_sub_eq_succ rfl))) ?_
 rintro v' L' ⟨rfl,rfl⟩
 refine ap_end ?_
 have rt2:∀ {A C D:HProp} {M:List HProp},Rd (A::C::seatR i.sb i.says i.turn i.fin::D::M) i.sb 0 (.chan (some i.turn)):=.there (.there (Rd.fro (k:=0) rfl rfl))
 repeat (first | (apply wo_po;apply mo_load;exact rfl;exact rt2;exact gY) | (apply wo_po;apply mo_build (pv:=[]);exact rfl;exact .nil;exact rfl;exact trivial) | refine we_seq ?_ | (refine wR ?_;try simp only [oS]) | refine wM ?_ | refine wN ?_ | refine wD ?_)
 refine wo_turn (X:=⟨g,wg,seatSs ids p.qs,some p.s,16384-p.tr.length,ids.length,false,.play,none,0⟩) (j:=k) (lf:=16384-(p.tr.length+1)) (c:=⟨i.says,i.turn,i.fin,.said q⟩) (s:=p.s) (q:=q) rfl rfl rfl rfl hsk rfl hpl rfl (by show 16384-p.tr.length=_;omega) (by show ids.length=_;rw [hsz]) hok (.there (.there (.there (.there (.there (.there .here)))))) trivial ?_
 have rs2:∀ {A C D:HProp} {M:List HProp},Rd (A::C::seatR i.sb i.says i.turn i.fin::D::M) i.sb 2 (.chan (some i.says)):=.there (.there (Rd.fro (k:=2) rfl rfl))
 repeat (first | (apply wo_po;apply mo_load;exact rfl;exact rs2;exact gY) | refine we_seq ?_ | (refine wR ?_;try simp only [oS]) | refine wo_nil ?_ | refine wM ?_ | refine wN ?_ | refine wD ?_)
 refine wo_hear (X:=⟨g,wg,(seatSs ids p.qs).set k ⟨i.says,i.turn,i.fin,.run (f p.s).1 (f p.s).2⟩,none,16384-(p.tr.length+1),ids.length,false,.play,none,0⟩) (j:=k) (c:=⟨i.says,i.turn,i.fin,.run (f p.s).1 (f p.s).2⟩) (s:=(f p.s).1) (q:=(f p.s).2) rfl rfl rfl (List.getElem?_set_self (by rw [hsz];exact hk)) rfl rfl trivial ?_
 have hc:=lastC_says (g:=g) (q:=(f p.s).2)
 have hov:over [.int .u8 m.1,.int .i64 m.2,.bool false] 0 (g.says (f p.s).2).cells.toList=lastQ g (f p.s).2:=by
  rw [hc];unfold over;simp [lastC_len]
 repeat (first | refine wN ?_ | refine wD ?_)
 apply wo_pm
 exact mo_storeA (n:=3) (c:=3) (k:=0) (a:=3) (vs:=[.int .u8 m.1,.int .i64 m.2,.bool false]) rfl rfl (by rw [← Array.length_toList,hc];exact lastC_len) (by rw [hc];exact lastC_one) rfl (Nat.le_refl 3) (.there (.there (.there (.there .here))))
 exact trivial
 rw [hov]
 have hset:((seatSs ids p.qs).set k ⟨i.says,i.turn,i.fin,.run (f p.s).1 (f p.s).2⟩).set k ⟨i.says,i.turn,i.fin,.said (f p.s).2⟩=seatSs ids (p.qs.set k (f p.s).2):=by
  rw [List.set_set];exact (zip_set (f:=seatS) hi).symm
 repeat (first | refine we_seq ?_ | (refine wR ?_;try simp only [oS]) | refine wo_nil ?_ | refine wA ?_ | refine we_ret ?_)
 (first | refine or1 Try.func58 Try.results58 hQ rfl ?_ | refine on1 Try.func58 Try.results58 hQ rfl ?_)
 refine ⟨.slice ua un uc,rfl,?_,fun h st=>?_⟩
 ·show gx g wg (((seatSs ids p.qs).set k ⟨i.says,i.turn,i.fin,.run (f p.s).1 (f p.s).2⟩).set k ⟨i.says,i.turn,i.fin,.said (f p.s).2⟩) _ _ _=gx g wg _ _ _ _
  rw [hset]
  simp
 ·have st1:Star (seatR i.sb i.says i.turn i.fin::arr i.sb 3 (lastQ g (f p.s).2)::er::g.U (f p.s).1::arr pb 0 [.slice (some ⟨b,o,none⟩) ids.length c,.slice ua un uc,cs]::vec 1 (.slice (some ⟨b,o,none⟩) ids.length c) (ptrs ids)::vec 3 (.slice ua un uc) (trCP p.tr++[.int .i64 (k:Nat),.int .u8 m.1,.int .i64 m.2])::F) h:=Ent.star (.take (.there (.there (.there .here))) (.take (.there (.there (.there .here))) (.take (.there (.there (.there (.there (.there .here))))) (.take .here (.take (.there (.there .here)) (.take (.there (.there .here)) (.take .here (.drop .refl)))))))) st
  rw [← trCP_app] at st1
  have s1:=seat_put hi hq st1
  exact Ent.star (.take (.there .here) (.take (.there .here) (.take (.there .here) (.take (.there .here) (.take .here .refl))))) s1
theorem takes_tr {k:Int} (hl:ids.length=p.qs.length) (hle:p.tr.length≤16384) (hok:p.tr.length<16384→g.ok p.s) :
  Tr Try.prog mT 58 [.pointer (some ⟨pb,0,none⟩),.int .i64 k] (playL g pb ss ts cs ids p F) (playX g wg ids p) fun v L' x'=>∃ ts',v=.bool (takeF p k).2∧L'=playL g pb ss ts' cs ids (takeF p k).1 F∧x'=playX g wg ids (takeF p k).1:=by
 by_cases h0:k<0
 ·rw [show takeF p k=(p,false) by unfold takeF;rw [if_pos h0]]
  exact (take_out hl (.inl h0)).mono fun v L' x' h=>⟨ts,h⟩
 obtain ⟨n,rfl⟩:∃ n:Nat,k=n:=⟨k.toNat,by omega⟩
 cases hq:p.qs[n]? with
 | none =>
  have:=List.getElem?_eq_none_iff.1 hq
  rw [show takeF p (n:Int)=(p,false) by unfold takeF;rw [if_neg h0,Int.toNat_natCast,hq]]
  exact (take_out hl (.inr (by omega))).mono fun v L' x' h=>⟨ts,h⟩
 | some q =>
  have hn:=(List.getElem?_eq_some_iff.1 hq).1
  have hi:ids[n]?=some (ids[n]'(by omega)):=List.getElem?_eq_getElem _
  cases hpl:g.plan q with
  | none =>
   rw [show takeF p (n:Int)=(p,false) by unfold takeF;rw [if_neg h0,Int.toNat_natCast,hq];simp only [hpl]]
   exact (take_no hi hq (.inl hpl)).mono fun v L' x' h=>⟨ts,h⟩
  | some mf =>
   obtain ⟨m,f⟩:=mf
   by_cases htr:p.tr.length=16384
   ·rw [show takeF p (n:Int)=(p,false) by unfold takeF;rw [if_neg h0,Int.toNat_natCast,hq];simp only [hpl,if_pos htr]]
    exact (take_no hi hq (.inr htr)).mono fun v L' x' h=>⟨ts,h⟩
   ·rw [show takeF p (n:Int)=(⟨(f p.s).1,p.qs.set n (f p.s).2,p.tr++[(n,m)]⟩,true) by unfold takeF;rw [if_neg h0,Int.toNat_natCast,hq];simp only [hpl,if_neg htr]]
    exact (take_yes hl hi hq hpl (by omega) (hok (by omega))).mono fun v L' x' h=>h
end
end Go.Proofs.Ytmkkanmkjfnpdaa
namespace Go.PB
section
variable {P:Program} {B:Hand} {kd:CallKind} {n:Nat} {ops:Array Oper} {ord R:List Nat} {Pd:List Pn} {K:Post B} {e:Env} {z:Z} {L:List HProp} {x:B.X}
theorem ap1_swap {i f:Nat} {ord' R' pre idx:List Nat} {t:Array Value} {h:Hp} (hf:R.contains f=true) (hR:R.erase f=R') (hord:ord'=(ord.takeWhile fun q=>!(q == i))++f::i::R') (hok:okOrd n ops ord'=true)
  (b:Ap1 P B kd n ops ord' f (i::R') Pd K e z L x) (hpre:ord=pre++i::R) (hin:∀ p∈Pd,p.i∈pre) (ok:OkO n ops ord) (hpd:∀ p∈Pd,PdOk P n ops L p) (I:InvA n ops (i::R) Pd e (f::idx) t) (s:Star L h):Wr P B kd ops (f::idx) K t z h x:=by
 subst hR
 have hfR:f∈R:=by simpa using hf
 have hnd:(pre++i::R).Nodup:=hpre▸ok.nd
 have htw:ord.takeWhile (fun q=>!(q == i))=pre:=by rw [hpre];exact takeWhile_pre hnd
 have hnd2:=List.nodup_cons.1 (List.nodup_append.1 hnd).2.1
 have hmem:∀ y,(y∈f::i::R.erase f)↔y∈i::R:=by
  intro y
  simp only [List.mem_cons,hnd2.2.mem_erase_iff]
  constructor
  ·rintro (rfl | rfl | ⟨_,h⟩)
   ·exact .inr hfR
   ·exact .inl rfl
   ·exact .inr h
  ·rintro (rfl | h)
   ·exact .inr (.inl rfl)
   ·by_cases e:y=f
    ·exact .inl e
    ·exact .inr (.inr ⟨e,h⟩)
 refine b ⟨pre,by rw [hord,htw],hin⟩ (okOrd_ok hok) hpd idx t h ⟨I.sz,I.nd,I.lt,fun q hq=>?_,fun q hq=>I.all q ((hmem q).1 hq),fun p hp hh=>I.dj p hp ((hmem _).1 hh),I.pu,I.resp,I.dn,I.envok,I.pok⟩ s
 rcases I.sub q hq with h1 | h1
 ·exact .inl ((hmem q).2 h1)
 ·exact .inr h1
theorem ap_fork3 [Lets B] {i f g:Nat} {ordf ordg Rf Rg:List Nat} (hdom:(R.all fun j=>j == f||j == g||(anc ops ops.size j).contains i)=true) (hf:R.contains f=true) (hRf:R.erase f=Rf) (hordf:ordf=(ord.takeWhile fun q=>!(q == i))++f::i::Rf) (hokf:okOrd n ops ordf=true)
  (hg:R.contains g=true) (hRg:R.erase g=Rg) (hordg:ordg=(ord.takeWhile fun q=>!(q == i))++g::i::Rg) (hokg:okOrd n ops ordg=true)
  (a:Ap1 P B kd n ops ord i R Pd K e z L x) (b:Ap1 P B kd n ops ordf f (i::Rf) Pd K e z L x) (c:Ap1 P B kd n ops ordg g (i::Rg) Pd K e z L x):Ap P B kd n ops ord (i::R) Pd K e z L x:=by
 rintro ⟨pre,hpre,hin⟩ ok hpd
 refine ap_run ok hpd (fun t h I s=>?_) (fun j idx t h hj I s=>?_)
 ·have:=I.all i (by simp);simp at this
 ·by_cases hji:j=i
  ·subst hji
   exact a ⟨pre,hpre,hin⟩ ok hpd idx t h I s
  ·have hjf:j=f∨j=g:=by
    rcases List.mem_cons.1 hj with h1 | h1
    ·exact absurd h1 hji
    ·have:=(List.all_eq_true.1 hdom) j h1
     simp only [Bool.or_eq_true,beq_iff_eq,List.contains_eq_mem,decide_eq_true_eq] at this
     rcases this with h2 | h2
     ·exact h2
     ·exact absurd (I.all i (by simp)) (I.first ok h2)
   rcases hjf with rfl | rfl
   ·exact ap1_swap hf hRf hordf hokf b hpre hin ok hpd I s
   ·exact ap1_swap hg hRg hordg hokg c hpre hin ok hpd I s
theorem ap_fork2 [Lets B] {i f:Nat} {ordf Rf:List Nat} (hdom:(R.all fun j=>j == f||(anc ops ops.size j).contains i)=true) (hf:R.contains f=true) (hRf:R.erase f=Rf) (hordf:ordf=(ord.takeWhile fun q=>!(q == i))++f::i::Rf) (hokf:okOrd n ops ordf=true)
  (a:Ap1 P B kd n ops ord i R Pd K e z L x) (b:Ap1 P B kd n ops ordf f (i::Rf) Pd K e z L x):Ap P B kd n ops ord (i::R) Pd K e z L x:=by
 subst hRf;exact ap_fork hdom hf hordf hokf a b
end
end Go.PB
namespace Go.Proofs.Ytmkkanmkjfnpdaa
open Go Go.PB
attribute [local irreducible] Mo Bin Eql Tr Wo Ap Wle
section
variable {B:Hand} [Lets B] {L:List HProp} {x:B.X}
def isFn (v:Value):Prop:=∃ f u w,v=.func f u w
theorem wrong1_nil:Tr Try.prog B 71 [.nilFunc] L x fun v L' x'=>v=.bool true∧L'=L∧x'=x:=by
 refine tr_of_body Try.func71 rfl Try.ntmps71 (by simp) fun um Q _ hQ=>?_
 simp only [argE,Nat.zero_add,Nat.reduceAdd]
 repeat (first | (apply wo_po;apply mo_bin;exact rfl;exact rfl;apply bin_eq;apply eql_nilfunc_nil;exact trivial) | refine we_seq ?_ | (refine wR ?_;try simp only [oS]) | refine wo_nil ?_ | refine wM ?_ | refine wA ?_ | refine we_ret ?_)
 (first | refine or1 Try.func71 Try.results71 hQ rfl ?_ | refine on1 Try.func71 Try.results71 hQ rfl ?_)
 exact ⟨rfl,rfl,rfl⟩
theorem wrong1_fn {v:Value} (hv:isFn v):Tr Try.prog B 71 [v] L x fun v L' x'=>v=.bool false∧L'=L∧x'=x:=by
 obtain ⟨f,u,w,rfl⟩:=hv
 refine tr_of_body Try.func71 rfl Try.ntmps71 (by simp) fun um Q _ hQ=>?_
 simp only [argE,Nat.zero_add,Nat.reduceAdd]
 repeat (first | (apply wo_po;apply mo_bin;exact rfl;exact rfl;apply bin_eq;apply eql_func_nil;exact trivial) | refine we_seq ?_ | (refine wR ?_;try simp only [oS]) | refine wo_nil ?_ | refine wM ?_ | refine wA ?_ | refine we_ret ?_)
 (first | refine or1 Try.func71 Try.results71 hQ rfl ?_ | refine on1 Try.func71 Try.results71 hQ rfl ?_)
 exact ⟨rfl,rfl,rfl⟩
def RdsO (L:List HProp) (a:Option Addr) (n:Nat) (vs:List Value):Prop:=n=vs.length∧(n=0∨∃ b o,a=some ⟨b,o,none⟩∧Rds L b o vs)
theorem RdsO.there {L:List HProp} {c:HProp} {a:Option Addr} {n:Nat} {vs:List Value} (h:RdsO L a n vs):RdsO (c::L) a n vs :=
 ⟨h.1,h.2.imp id fun ⟨b,o,e,r⟩=>⟨b,o,e,fun i v hi=>.there (r i v hi)⟩⟩
theorem RdsO.rds {L:List HProp} {a:Option Addr} {n:Nat} {vs:List Value} (h:RdsO L a n vs) (hn:0<n):∃ b o,a=some ⟨b,o,none⟩∧Rds L b o vs:=by
 rcases h.2 with h0 | h
 ·omega
 ·exact h
def idxInv (tv fv:Value) (vs:List Value) (L:List HProp) (x:B.X):PB.Inv Nat B.X where
 e:=fun i=>[(0,tv),(1,fv),(7,.int .i64 (vs.length:Nat)),(8,.int .i64 (i:Nat))]
 L:=fun _=>L
 x:=fun _=>x
 ok:=fun i=>i≤vs.length∧∀ k v,k<i→vs[k]?=some v→isFn v
theorem index_tr {a:Option Addr} {n c:Nat} {vs:List Value} (hvs:∀ v∈vs,v=.nilFunc∨isFn v) (hr:RdsO L a n vs) (hb:n<1000000) :
  Tr Try.prog B 97 [.slice a n c,.func (.func 71) #[] #[]] L x fun v L' x'=>(∃ j:Int,v=.int .i64 j∧((j<0∧∀ v∈vs,isFn v)∨(0≤j∧.nilFunc∈vs)))∧L'=L∧x'=x:=by
 obtain ⟨rfl,hr⟩:=hr
 refine tr_of_body Try.func97 rfl Try.ntmps97 (by simp) fun um Q _ hQ=>?_
 simp only [argE,Nat.zero_add,Nat.reduceAdd]
 repeat (first | refine we_seq ?_ | (refine wR ?_;try simp only [oS]) | refine wo_nil ?_ | refine wM ?_ | refine wA ?_ | refine wE ?_ | refine we_block ?_)
 refine we_loopN (idxInv (.slice a vs.length c) (.func (.func 71) #[] #[]) vs L x) (fun i=>vs.length-i) 0 ⟨by omega,fun k v h=>by omega⟩ ⟨rfl,rfl,rfl,rfl,trivial⟩ .refl rfl ?_
 rintro i ⟨hi,hbe⟩
 simp only [idxInv]
 by_cases hlt:i<vs.length
 ·obtain ⟨b,o,rfl,hrd⟩:∃ b o,a=some ⟨b,o,none⟩∧Rds L b o vs:=by
   rcases hr with h | h
   ·omega
   ·exact h
  have hri:=hrd i vs[i] (List.getElem?_eq_getElem hlt)
  repeat (first | (apply wo_po;apply mo_index1;exact rfl;exact rfl;omega;exact gY) | (apply wo_po;apply mo_load;exact rfl;exact hri;exact trivial) | refine wlssT ?_ | refine we_seq ?_ | (refine wR ?_;try simp only [oS]) | refine wo_nil ?_ | refine wM ?_ | refine wA ?_ | refine wT ?_ | refine we_skip ?_ | refine we_block ?_)
  rcases hvs vs[i] (List.getElem_mem hlt) with hv | hv
  ·rw [hv]
   refine wo_callv (args:=[_]) (first:=[]) (cap:=[]) rfl rfl (.cons rfl .nil) trivial (R:=fun v L' x'=>v=.bool true∧L'=L∧x'=x) wrong1_nil ?_
   rintro v L' x' ⟨rfl,rfl,rfl⟩
   repeat (first | refine we_seq ?_ | (refine wR ?_;try simp only [oS]) | refine wo_nil ?_ | refine wM ?_ | refine wA ?_ | refine wT ?_ | refine we_ret ?_)
   (first | refine or1 Try.func97 Try.results97 hQ rfl ?_ | refine on1 Try.func97 Try.results97 hQ rfl ?_)
   exact ⟨⟨_,rfl,.inr ⟨by omega,by rw [← hv];exact List.getElem_mem hlt⟩⟩,rfl,rfl⟩
  ·refine wo_callv (args:=[_]) (first:=[]) (cap:=[]) rfl rfl (.cons rfl .nil) trivial (R:=fun v L' x'=>v=.bool false∧L'=L∧x'=x) (wrong1_fn hv) ?_
   rintro v L' x' ⟨rfl,rfl,rfl⟩
   repeat (first | (refine wR ?_;try simp only [oS]) | refine wo_nil ?_ | refine wM ?_ | refine wadd ?_ | refine wF ?_ | refine we_skip ?_)
   refine at_round (I:=idxInv (.slice (some ⟨b,o,none⟩) vs.length c) (.func (.func 71) #[] #[]) vs _ x') (R:=fun j=>vs.length-j<vs.length-i) (i+1) (by omega) ⟨by omega,fun k v hk hv'=>?_⟩ ⟨rfl,rfl,rfl,rfl,trivial⟩ .refl rfl
   by_cases e:k=i
   ·subst e;rw [List.getElem?_eq_getElem hlt] at hv';cases hv';exact hv
   ·exact hbe k v (by omega) hv'
 ·repeat (first | refine wlssF ?_ | refine we_seq ?_ | (refine wR ?_;try simp only [oS]) | refine wo_nil ?_ | refine wA ?_ | refine wF ?_ | refine we_ret ?_ | refine we_exit ?_)
  (first | refine or1 Try.func97 Try.results97 hQ rfl ?_ | refine on1 Try.func97 Try.results97 hQ rfl ?_)
  refine ⟨⟨_,rfl,.inl ⟨by omega,fun v hv=>?_⟩⟩,rfl,rfl⟩
  obtain ⟨k,hk⟩:=List.mem_iff_getElem?.1 hv
  exact hbe k v (by have:=(List.getElem?_eq_some_iff.1 hk).1;omega) hk
theorem contains_tr {a:Option Addr} {n c:Nat} {vs:List Value} (hvs:∀ v∈vs,v=.nilFunc∨isFn v) (hr:RdsO L a n vs) (hb:n<1000000) :
  Tr Try.prog B 70 [.slice a n c,.func (.func 71) #[] #[]] L x fun v L' x'=>(∃ q,v=.bool q∧(if q=true then .nilFunc∈vs else ∀ v∈vs,isFn v))∧L'=L∧x'=x:=by
 refine tr_of_body Try.func70 rfl Try.ntmps70 (by simp) fun um Q _ hQ=>?_
 simp only [argE,Nat.zero_add,Nat.reduceAdd]
 repeat (first | refine we_seq ?_ | (refine wR ?_;try simp only [oS]) | refine wo_nil ?_ | refine wM ?_ | refine wA ?_)
 refine wo_call (.cons rfl (.cons rfl .nil)) trivial (index_tr hvs hr hb) ?_
 rintro v L' x' ⟨⟨j,rfl,hj⟩,rfl,rfl⟩
 rcases hj with ⟨h1,h2⟩ | ⟨h1,h2⟩
 ·repeat (first | refine wgeqF ?_ | refine wo_nil ?_ | refine wA ?_ | refine we_ret ?_)
  (first | refine or1 Try.func70 Try.results70 hQ rfl ?_ | refine on1 Try.func70 Try.results70 hQ rfl ?_)
  exact ⟨⟨false,rfl,h2⟩,rfl,rfl⟩
 ·repeat (first | refine wgeqT ?_ | refine wo_nil ?_ | refine wA ?_ | refine we_ret ?_)
  (first | refine or1 Try.func70 Try.results70 hQ rfl ?_ | refine on1 Try.func70 Try.results70 hQ rfl ?_)
  exact ⟨⟨true,rfl,h2⟩,rfl,rfl⟩
theorem wrong_tr {a:Option Addr} {n c:Nat} {vs:List Value} (hvs:∀ v∈vs,v=.nilFunc∨isFn v) (hr:RdsO L a n vs) (hb:n<1000000) :
  Tr Try.prog B 52 [.slice a n c] L x fun v L' x'=>(∃ k:Int,v=.int .i64 k∧(((k=1∧.nilFunc∈vs)∨((∀ v∈vs,isFn v)∧k=if vs.length=0 then 2 else if 16<vs.length then 4 else 0))))∧L'=L∧x'=x:=by
 have hn:=hr.1
 refine tr_of_body Try.func52 rfl Try.ntmps52 (by simp) fun um Q _ hQ=>?_
 simp only [argE,Nat.zero_add,Nat.reduceAdd]
 repeat (first | refine we_seq ?_ | (refine wR ?_;try simp only [oS]) | refine wo_nil ?_ | refine wM ?_ | refine wA ?_ | refine we_block ?_)
 refine wo_call (.cons rfl (.cons rfl .nil)) trivial (contains_tr hvs hr hb) ?_
 rintro v L' x' ⟨⟨q,rfl,hq⟩,rfl,rfl⟩
 cases q with
 | true =>
  repeat (first | refine we_seq ?_ | (refine wR ?_;try simp only [oS]) | refine wo_nil ?_ | refine wA ?_ | refine wT ?_ | refine we_ret ?_)
  (first | refine or1 Try.func52 Try.results52 hQ rfl ?_ | refine on1 Try.func52 Try.results52 hQ rfl ?_)
  exact ⟨⟨_,rfl,.inl ⟨rfl,hq⟩⟩,rfl,rfl⟩
 | false =>
  by_cases h0:n=0
  ·repeat (first | refine weqlT ?_ | refine we_seq ?_ | (refine wR ?_;try simp only [oS]) | refine wo_nil ?_ | refine wM ?_ | refine wA ?_ | refine wE ?_ | refine wT ?_ | refine wF ?_ | refine we_ret ?_)
   (first | refine or1 Try.func52 Try.results52 hQ rfl ?_ | refine on1 Try.func52 Try.results52 hQ rfl ?_)
   exact ⟨⟨_,rfl,.inr ⟨hq,by rw [if_pos (by omega)]⟩⟩,rfl,rfl⟩
  by_cases h1:16<n
  ·repeat (first | refine wgtrT ?_ | refine weqlF ?_ | refine we_seq ?_ | (refine wR ?_;try simp only [oS]) | refine wo_nil ?_ | refine wM ?_ | refine wA ?_ | refine wE ?_ | refine wT ?_ | refine wF ?_ | refine we_ret ?_)
   (first | refine or1 Try.func52 Try.results52 hQ rfl ?_ | refine on1 Try.func52 Try.results52 hQ rfl ?_)
   exact ⟨⟨_,rfl,.inr ⟨hq,by rw [if_neg (by omega),if_pos (by omega)]⟩⟩,rfl,rfl⟩
  ·repeat (first | refine wgtrF ?_ | refine weqlF ?_ | refine we_seq ?_ | (refine wR ?_;try simp only [oS]) | refine wo_nil ?_ | refine wM ?_ | refine wA ?_ | refine wE ?_ | refine wF ?_ | refine we_ret ?_ | refine we_skip ?_)
   (first | refine or1 Try.func52 Try.results52 hQ rfl ?_ | refine on1 Try.func52 Try.results52 hQ rfl ?_)
   exact ⟨⟨_,rfl,.inr ⟨hq,by rw [if_neg (by omega),if_neg (by omega)]⟩⟩,rfl,rfl⟩
end
end Go.Proofs.Ytmkkanmkjfnpdaa
namespace Go.Proofs.Ytmkkanmkjfnpdaa
open Go Go.PB
attribute [local irreducible] Mo Bin Eql Tr Wo Ap Wle
attribute [local instance] Pass.of_no
section
structure Thr (g:Game) where
 fv:Value
 ini:g.σ→g.σ × g.θ
 M:HProp
section
variable {g:Game}
def startF:List (Thr g)→g.σ→g.σ × List g.θ
 | [],s=>(s,[])
 | t::ts,s=>((startF ts (t.ini s).1).1,(t.ini s).2::(startF ts (t.ini s).1).2)
theorem startF_snoc {t:Thr g}:∀ (l:List (Thr g)) (s:g.σ),startF (l++[t]) s=((t.ini (startF l s).1).1,(startF l s).2++[(t.ini (startF l s).1).2])
 | [],s=>rfl
 | a::l,s=>by simp only [List.cons_append,startF,startF_snoc l]
theorem startF_len:∀ (l:List (Thr g)) (s:g.σ),(startF l s).2.length=l.length
 | [],s=>rfl
 | a::l,s=>by simp [startF,startF_len l]
def ordF (p:PS g) (order:List Int):PS g:=order.foldl (fun p k=>(takeF p k).1) p
def roundF (p:PS g):Nat→PS g × Bool
 | 0=>(p,false)
 | k+1=>((takeF (roundF p k).1 k).1,(takeF (roundF p k).1 k).2||(roundF p k).2)
def restF:Nat→PS g→PS g
 | 0,p=>p
 | n+1,p=>if (roundF p p.qs.length).2=true then restF n (roundF p p.qs.length).1 else (roundF p p.qs.length).1
def playF (ts:List (Thr g)) (s:g.σ) (order:List Int):PS g:=restF 16385 (ordF ⟨(startF ts s).1,(startF ts s).2,[]⟩ order)
def cutC (l:List Nat):List Value:=l.map fun k=>.int .i64 (k:Nat)
theorem roundF_len (p:PS g):∀ n,(roundF p n).1.qs.length=p.qs.length
 | 0=>rfl
 | n+1=>by show (takeF _ _).1.qs.length=_;rw [takeF_len,roundF_len p n]
theorem roundF_le {p:PS g} (h:p.tr.length≤16384):∀ n,(roundF p n).1.tr.length≤16384
 | 0=>h
 | n+1=>takeF_le (roundF_le h n) _
theorem takeF_cases (p:PS g) (k:Int):takeF p k=(p,false)∨∃ (n:Nat) (q:g.θ) (m:Int × Int) (f:g.σ→g.σ × g.θ),k=n∧p.qs[n]?=some q∧g.plan q=some (m,f)∧p.tr.length≠16384∧takeF p k=(⟨(f p.s).1,p.qs.set n (f p.s).2,p.tr++[(n,m)]⟩,true):=by
 by_cases h0:k<0
 ·left;unfold takeF;rw [if_pos h0]
 obtain ⟨n,rfl⟩:∃ n:Nat,k=n:=⟨k.toNat,by omega⟩
 cases hq:p.qs[n]? with
 | none=>left;unfold takeF;rw [if_neg h0,Int.toNat_natCast,hq]
 | some q =>
  cases hpl:g.plan q with
  | none=>left;unfold takeF;rw [if_neg h0,Int.toNat_natCast,hq];simp only [hpl]
  | some mf =>
   obtain ⟨m,f⟩:=mf
   by_cases htr:p.tr.length=16384
   ·left;unfold takeF;rw [if_neg h0,Int.toNat_natCast,hq];simp only [hpl,if_pos htr]
   ·right;refine ⟨n,q,m,f,rfl,hq,hpl,htr,?_⟩
    unfold takeF;rw [if_neg h0,Int.toNat_natCast,hq];simp only [hpl,if_neg htr]
theorem takeF_grow (p:PS g) (k:Int):p.tr.length+(if (takeF p k).2=true then 1 else 0)≤(takeF p k).1.tr.length:=by
 rcases takeF_cases p k with h | ⟨n,q,m,f,_,_,_,_,h⟩ <;> rw [h] <;> simp
theorem roundF_grow (p:PS g):∀ n,p.tr.length+(if (roundF p n).2=true then 1 else 0)≤(roundF p n).1.tr.length
 | 0=>by simp [roundF]
 | n+1=>by
  have h1:=roundF_grow p n
  have h2:=takeF_grow (roundF p n).1 n
  show p.tr.length+(if ((takeF (roundF p n).1 n).2||(roundF p n).2)=true then 1 else 0)≤(takeF (roundF p n).1 n).1.tr.length
  cases h3:(takeF (roundF p n).1 n).2 <;> cases h4:(roundF p n).2 <;> simp [h3,h4] at h1 h2 ⊢ <;> omega
theorem ordF_len (order:List Int):∀ p:PS g,(ordF p order).qs.length=p.qs.length:=by
 induction order with
 | nil=>intro p;rfl
 | cons k l ih=>intro p;show (ordF (takeF p k).1 l).qs.length=_;rw [ih,takeF_len]
theorem ordF_le (order:List Int):∀ p:PS g,p.tr.length≤16384→(ordF p order).tr.length≤16384:=by
 induction order with
 | nil=>intro p h;exact h
 | cons k l ih=>intro p h;exact ih _ (takeF_le h k)
theorem ordF_snoc (p:PS g) (l:List Int) (k:Int):ordF p (l++[k])=(takeF (ordF p l) k).1:=by simp [ordF]
def cutN (g:Game) (qs:List g.θ) (j:Nat):List Nat:=(List.range j).filter fun k=>((qs[k]?).bind g.plan).isSome
theorem cutN_succ {qs:List g.θ} {j:Nat}:cutN g qs (j+1)=cutN g qs j++(if ((qs[j]?).bind g.plan).isSome=true then [j] else []):=by
 unfold cutN
 rw [List.range_succ,List.filter_append]
 congr 1
 simp only [List.filter_cons,List.filter_nil]
def shutS (ids:List SId) (qs:List g.θ) (j:Nat):List (Seat g.σ g.θ):=(List.zip ids qs).mapIdx fun k iq=>if k<j then ⟨iq.1.says,iq.1.turn,iq.1.fin,.shut iq.2⟩ else seatS iq.1 iq.2
theorem shutS_zero {ids:List SId} {qs:List g.θ}:shutS ids qs 0=seatSs ids qs:=by
 apply List.ext_getElem?
 intro k
 simp only [shutS,List.getElem?_mapIdx,seatSs,List.getElem?_zipWith,List.getElem?_zip_eq_some,List.zip,Nat.not_lt_zero,if_false]
 cases ids[k]? <;> cases qs[k]? <;> rfl
theorem shutS_len {ids:List SId} {qs:List g.θ} {j:Nat} (h:ids.length=qs.length):(shutS ids qs j).length=ids.length:=by simp [shutS];omega
theorem shutS_get {ids:List SId} {qs:List g.θ} {j k:Nat} {i:SId} {q:g.θ} (hi:ids[k]?=some i) (hq:qs[k]?=some q):(shutS ids qs j)[k]?=some (if k<j then ⟨i.says,i.turn,i.fin,.shut q⟩ else seatS i q):=by
 simp [shutS,List.getElem?_mapIdx,List.zip,List.getElem?_zipWith,hi,hq]
theorem shutS_succ {ids:List SId} {qs:List g.θ} {j:Nat} {i:SId} {q:g.θ} (hi:ids[j]?=some i) (hq:qs[j]?=some q):(shutS ids qs j).set j ⟨i.says,i.turn,i.fin,.shut q⟩=shutS ids qs (j+1):=by
 apply List.ext_getElem?
 intro k
 have hj:j<(shutS ids qs j).length:=(List.getElem?_eq_some_iff.1 (shutS_get (j:=j) hi hq)).1
 rw [List.getElem?_set]
 by_cases e:j=k
 ·subst e
  rw [if_pos rfl,if_pos hj,shutS_get hi hq,if_pos (by omega)]
 ·rw [if_neg e]
  simp only [shutS,List.getElem?_mapIdx]
  cases (ids.zip qs)[k]? with
  | none=>rfl
  | some iq =>
   simp only [Option.map_some,Option.some.injEq]
   by_cases h:k<j
   ·rw [if_pos h,if_pos (by omega)]
   ·rw [if_neg h,if_neg (by omega)]
theorem shutS_all {ids:List SId} {qs:List g.θ} (h:ids.length=qs.length):(shutS ids qs ids.length).map Seat.fins=qs.map g.Fin:=by
 apply List.ext_getElem?
 intro k
 by_cases hk:k<ids.length
 ·have hi:=List.getElem?_eq_getElem hk
  have hq:=List.getElem?_eq_getElem (show k<qs.length by omega)
  rw [List.getElem?_map,shutS_get hi hq,if_pos hk,List.getElem?_map,hq]
  rfl
 ·rw [List.getElem?_eq_none (by simp [shutS_len h];omega),List.getElem?_eq_none (by simp;omega)]
theorem shutS_closed {ids:List SId} {qs:List g.θ} (h:ids.length=qs.length):∀ s∈shutS ids qs ids.length,s.closed:=by
 intro s hs
 obtain ⟨k,hk⟩:=List.mem_iff_getElem?.1 hs
 have hlt:=(List.getElem?_eq_some_iff.1 hk).1
 rw [shutS_len h] at hlt
 rw [shutS_get (List.getElem?_eq_getElem hlt) (List.getElem?_eq_getElem (show k<qs.length by omega)),if_pos hlt] at hk
 cases hk
 trivial
end
section
variable {g:Game} {ts:List (Thr g)} {s0:g.σ} {F:List HProp} {wg pb rb:Nat} {ov tv:Value}
theorem star_head {c:HProp} {M L:List HProp} {h:Hp} (s:Star (all (c::M)::L) h):Star (c::all M::L) h :=
 star_map (star_open s) (fun _ a=>a) (fun _ st=>star_shut (M:=M) st)
def startInvP (ts:List (Thr g)) (s0:g.σ) (wg pb rb:Nat) (ov tv:Value) (F:List HProp):PB.Inv (Nat × g.σ × List g.θ × List SId × Value) MX where
 e:=fun i=>[(0,ov),(1,tv),(4,.pointer (some ⟨rb,0,none⟩)),(7,.pointer (some ⟨wg,0,none⟩)),(8,.pointer (some ⟨pb,0,none⟩)),(28,tv),(29,.int .i64 (ts.length:Nat)),(30,.int .i64 (i.1:Nat))]
 L:=fun i=>g.U i.2.1::arr pb 0 [i.2.2.2.2,.slice none 0 0,.slice none 0 0]::vec 1 i.2.2.2.2 (ptrs i.2.2.2.1)::all (seatCs g i.2.2.2.1 i.2.2.1)::all ((ts.drop i.1).map Thr.M)::arr rb 0 [.slice none 0 0,.slice none 0 0]::F
 x:=fun i=>gx g wg (seatSs i.2.2.2.1 i.2.2.1) (some i.2.1) 16384 (seatSs i.2.2.2.1 i.2.2.1).length
 ok:=fun i=>i.1≤ts.length∧i.2.2.2.1.length=i.1∧startF (ts.take i.1) s0=(i.2.1,i.2.2.1)
def seatMid (wg pb rb j n:Nat) (ov tv fv:Value) (x:MX) (L:List HProp):PB.Inv (Nat × Nat × Nat × Nat) MX where
 e:=fun i=>[(0,ov),(1,tv),(4,.pointer (some ⟨rb,0,none⟩)),(7,.pointer (some ⟨wg,0,none⟩)),(8,.pointer (some ⟨pb,0,none⟩)),(28,tv),(29,.int .i64 (n:Nat)),(30,.int .i64 (j:Nat)),(10,fv),(11,.pointer (some ⟨i.1,0,none⟩))]
 L:=fun i=>arr i.1 0 [.chan (some i.2.2.1),.chan (some i.2.2.2),.chan (some i.2.1),.int .u8 0,.int .i64 0,.bool false]::ob i.2.1 newChan::ob i.2.2.1 newChan::ob i.2.2.2 newChan::L
 x:=fun _=>x
 ok:=fun _=>True
def ordInv (p0:PS g) (order:List Int) (ids:List SId) (wg pb rb:Nat) (ov:Value) (ss:Value) (F:List HProp):PB.Inv (Nat × Value) MX where
 e:=fun i=>[(4,.pointer (some ⟨rb,0,none⟩)),(7,.pointer (some ⟨wg,0,none⟩)),(8,.pointer (some ⟨pb,0,none⟩)),(49,ov),(50,.int .i64 (order.length:Nat)),(51,.int .i64 (i.1:Nat))]
 L:=fun i=>playL g pb ss i.2 (.slice none 0 0) ids (ordF p0 (order.take i.1)) F
 x:=fun i=>playX g wg ids (ordF p0 (order.take i.1))
 ok:=fun i=>i.1≤order.length
def restInv (I:PS g→Prop) (p0:PS g) (ids:List SId) (wg pb rb:Nat) (ss:Value) (F:List HProp):PB.Inv (Nat × PS g × Value × Bool) MX where
 e:=fun i=>[(4,.pointer (some ⟨rb,0,none⟩)),(7,.pointer (some ⟨wg,0,none⟩)),(8,.pointer (some ⟨pb,0,none⟩)),(14,.bool i.2.2.2)]
 L:=fun i=>playL g pb ss i.2.2.1 (.slice none 0 0) ids i.2.1 F
 x:=fun i=>playX g wg ids i.2.1
 ok:=fun i=>I i.2.1∧i.2.1.qs.length=p0.qs.length∧i.2.1.tr.length≤16384∧(if i.2.2.2=true then restF i.1 i.2.1=restF 16385 p0∧16384<i.2.1.tr.length+i.1 else i.2.1=restF 16385 p0)
def rndInvP (p:PS g) (ids:List SId) (wg pb rb:Nat) (ss:Value) (F:List HProp):PB.Inv (Nat × Value) MX where
 e:=fun i=>[(4,.pointer (some ⟨rb,0,none⟩)),(7,.pointer (some ⟨wg,0,none⟩)),(8,.pointer (some ⟨pb,0,none⟩)),(14,.bool (roundF p i.1).2),(61,.int .i64 (ids.length:Nat)),(62,.int .i64 (i.1:Nat))]
 L:=fun i=>playL g pb ss i.2 (.slice none 0 0) ids (roundF p i.1).1 F
 x:=fun i=>playX g wg ids (roundF p i.1).1
 ok:=fun i=>i.1≤ids.length
def cutInv (p:PS g) (ids:List SId) (wg pb rb:Nat) (ss tsv:Value) (F:List HProp):PB.Inv (Nat × Value) MX where
 e:=fun i=>[(4,.pointer (some ⟨rb,0,none⟩)),(7,.pointer (some ⟨wg,0,none⟩)),(8,.pointer (some ⟨pb,0,none⟩)),(72,ss),(73,.int .i64 (ids.length:Nat)),(74,.int .i64 (i.1:Nat))]
 L:=fun i=>vec 1 i.2 (cutC (cutN g p.qs i.1))::arr pb 0 [ss,tsv,i.2]::vec 1 ss (ptrs ids)::vec 3 tsv (trCP p.tr)::all (seatCs g ids p.qs)::g.U p.s::F
 x:=fun i=>gx g wg (shutS ids p.qs i.1) (some p.s) (16384-p.tr.length) ids.length
 ok:=fun i=>i.1≤ids.length
set_option maxHeartbeats 4000000 in
theorem playsR_tr {oa ta:Option Addr} {on oc tn tc:Nat} {order:List Int} (I:PS g→Prop) (hS:∀ j,j<ts.length→g.ok (startF (ts.take j) s0).1) (hI0:I ⟨(startF ts s0).1,(startF ts s0).2,[]⟩) (hIs:∀ p k,I p→I (takeF p k).1) (hIo:∀ p,I p→p.tr.length<16384→g.ok p.s) (hts:∀ t∈ts,ThrR g t.ini t.fv t.M) (h1:0<ts.length) (h16:ts.length≤16) (hor:order.length≤16384)
  (hrt:RdsO F ta tn (ts.map Thr.fv)) (hro:RdsO F oa on (order.map fun k=>.int .i64 k)) :
  Tr Try.prog mT 30 [.slice oa on oc,.slice ta tn tc] (g.U s0::all (ts.map Thr.M)::F) .idle fun v L' x' =>
   ∃ tv cv,v=.tuple #[.agg #[tv,cv],.int .i64 0]∧x'=.idle∧L'=vec 3 tv (trCP (playF ts s0 order).tr)::vec 1 cv (cutC (cutN g (playF ts s0 order).qs ts.length))::g.U (playF ts s0 order).s::all ((playF ts s0 order).qs.map g.Fin)::F:=by
 refine Tr.post (R:=fun v L' x'=>∃ tv cv,v=.tuple #[.agg #[tv,cv],.int .i64 0]∧x'=MX.idle∧∀ h,Star L' h→Star (vec 3 tv (trCP (playF ts s0 order).tr)::vec 1 cv (cutC (cutN g (playF ts s0 order).qs ts.length))::g.U (playF ts s0 order).s::all ((playF ts s0 order).qs.map g.Fin)::F) h) ?_
  (by rintro v L' x' ⟨tv,cv,rfl,rfl,h2⟩;exact ⟨_,⟨tv,cv,rfl,rfl,rfl⟩,h2⟩)
 have hfn:∀ v∈ts.map Thr.fv,isFn v:=by
  intro v hv
  obtain ⟨t,ht,rfl⟩:=List.mem_map.1 hv
  obtain ⟨f,first,cap,hc⟩:=(hts t ht).fn
  revert hc
  cases t.fv with
  | func a b c=>exact fun _=>⟨a,b,c,rfl⟩
  | _=>intro hc;cases hc
 have hIord:∀ (l:List Int) (p:PS g),I p→I (ordF p l):=by
  intro l
  induction l with
  | nil=>exact fun p h=>h
  | cons k l ih=>exact fun p h=>ih _ (hIs p k h)
 have hIrnd:∀ (p:PS g) k,I p→I (roundF p k).1:=by
  intro p k h
  induction k with
  | zero=>exact h
  | succ k ih=>exact hIs _ _ ih
 have htn:tn=ts.length:=by have:=hrt.1;simpa using this
 have hon:on=order.length:=by have:=hro.1;simpa using this
 subst htn
 subst hon
 refine tr_of_body Try.func30 rfl Try.ntmps30 (by simp) fun um Q _ hQ=>?_
 simp only [argE,Nat.zero_add,Nat.reduceAdd]
 repeat (first | (apply wo_mo;apply mo_alloc;exact trivial) | refine we_seq ?_ | (refine wR ?_;try simp only [oS]))
 rintro v' L' ⟨rb,rfl,rfl⟩
 repeat (first | refine we_seq ?_ | (refine wR ?_;try simp only [oS]) | refine wo_nil ?_ | refine wM ?_ | refine wA ?_)
 refine wo_call (.cons rfl .nil) trivial (wrong_tr (fun v hv=>.inr (hfn v hv)) hrt.there.there.there (by omega)) ?_
 rintro v' L' x' ⟨⟨k,rfl,hk⟩,rfl,rfl⟩
 obtain rfl:k=0:=by
  rcases hk with ⟨_,h⟩ | ⟨_,h⟩
  ·obtain ⟨_,_,_,h⟩:=hfn _ h;cases h
  ·rw [h,List.length_map,if_neg (by omega),if_neg (by omega)]
 repeat (first | (apply wo_mo;apply mo_allocS;exact trivial) | refine wgtrF ?_ | refine wneqF ?_ | refine we_seq ?_ | (refine wR ?_;try simp only [oS]) | refine wo_nil ?_ | refine wM ?_ | refine wA ?_ | refine wE ?_ | refine wF ?_ | refine we_skip ?_)
 rintro v' L' ⟨wg,rfl,rfl⟩
 repeat (first | refine we_seq ?_ | (refine wR ?_;try simp only [oS]) | refine wo_nil ?_)
 refine wo_begin g s0 (wg:=wg) (R:=arr rb 0 [.slice none 0 0,.slice none 0 0]::g.U s0::all (ts.map Thr.M)::F) (fun h st=>st) ?_
 repeat (first | (apply wo_mo;apply mo_alloc;exact trivial))
 rintro v' L' ⟨pb,rfl,rfl⟩
 repeat (first | refine we_seq ?_ | (refine wR ?_;try simp only [oS]) | refine wo_nil ?_ | refine wM ?_ | refine wE ?_ | refine we_block ?_)
 refine we_star (vec 1 (.slice none 0 0) (ptrs [])::all (seatCs g [] [])::arr pb 0 [.slice none 0 0,.slice none 0 0,.slice none 0 0]::shpC wg 132 2::arr rb 0 [.slice none 0 0,.slice none 0 0]::g.U s0::all (ts.map Thr.M)::F) (fun h st=>vec_nil (star_shut (M:=[]) st)) ?_
 refine we_loopN (startInvP ts s0 wg pb rb (.slice oa order.length oc) (.slice ta ts.length tc) (shpC wg 132 2::F)) (fun i=>ts.length-i.1) (0,s0,[],[],.slice none 0 0) ⟨by omega,rfl,rfl⟩ ⟨rfl,rfl,rfl,rfl,rfl,rfl,rfl,rfl,trivial⟩ (.take (.there (.there (.there (.there (.there .here))))) (.take (.there (.there .here)) (.take .here (.take .here (.take (.there (.there .here)) (.take (.there .here) (.take .here .refl))))))) rfl ?_
 rintro ⟨j,s,qs,ids,ss⟩ ⟨hj,hids,hst⟩
 simp only at hj hids hst
 have hqs:qs.length=j:=by have:=startF_len (ts.take j) s0;rw [hst] at this;simpa [Nat.min_eq_left hj] using this
 have hsl:(seatSs ids qs).length=ids.length:=by simp [seatSs];omega
 simp only [startInvP]
 by_cases hlt:j<ts.length
 ·obtain ⟨tb,to,rfl,hrd⟩:=hrt.rds (by omega)
  have ht:ts[j]?=some ts[j]:=List.getElem?_eq_getElem hlt
  have hrj:=hrd j (ts[j].fv) (by simp [ht])
  have hTO:=hts _ (List.getElem_mem hlt)
  have hdrop:ts.drop j=ts[j]::ts.drop (j+1):=List.drop_eq_getElem_cons hlt
  rw [hdrop]
  refine we_star (g.U s::arr pb 0 [ss,.slice none 0 0,.slice none 0 0]::vec 1 ss (ptrs ids)::all (seatCs g ids qs)::ts[j].M::all ((ts.drop (j+1)).map Thr.M)::arr rb 0 [.slice none 0 0,.slice none 0 0]::shpC wg 132 2::F) (fun h st=>Ent.star (.take (.there (.there .here)) (.take (.there (.there .here)) (.take (.there (.there .here)) (.take (.there (.there .here)) (.take .here (.take .here .refl)))))) (star_head (((.there (.there (.there (.there .here)))):Has _ (all ((ts[j]::ts.drop (j+1)).map Thr.M)) _).star st))) ?_
  repeat (first | (apply wo_po;apply mo_index1;exact rfl;exact rfl;omega;exact gY) | (apply wo_po;apply mo_load;exact rfl;exact .there (.there (.there (.there (.there (.there (.there (.there hrj)))))));exact trivial) | refine wlssT ?_ | refine we_seq ?_ | (refine wR ?_;try simp only [oS]) | refine wo_nil ?_ | refine wA ?_ | refine wT ?_ | refine we_skip ?_ | refine we_block ?_)
  let MI:=seatMid wg pb rb j ts.length (.slice oa order.length oc) (.slice (some ⟨tb,to,none⟩) ts.length tc) ts[j].fv (gx g wg (seatSs ids qs) (some s) 16384 (seatSs ids qs).length) (g.U s::arr pb 0 [ss,.slice none 0 0,.slice none 0 0]::vec 1 ss (ptrs ids)::all (seatCs g ids qs)::ts[j].M::all ((ts.drop (j+1)).map Thr.M)::arr rb 0 [.slice none 0 0,.slice none 0 0]::shpC wg 132 2::F)
  refine we_join MI ?_ ?_
  ·refine we_draw (List.range' 0 6) (by kernel_rfl) ?_
   refine ap_fork3 (f:=1) (g:=2) (ordf:=[1,0,2,3,4,5]) (ordg:=[2,0,1,3,4,5]) (Rf:=[2,3,4,5]) (Rg:=[1,3,4,5]) (by kernel_rfl) (by kernel_rfl) (by kernel_rfl) (by kernel_rfl) (by kernel_rfl) (by kernel_rfl) (by kernel_rfl) (by kernel_rfl) (by kernel_rfl) ?_ ?_ ?_
   ·refine ap1_mo (Pd':=[]) rfl rfl rfl trivial (mo_makeChan (m:=0) (k:=.i64) rfl (by omega) (by omega)) (fun v L' _ p hp=>by cases hp) ?_
    rintro v' L' ⟨ct,rfl,rfl⟩
    refine ap_fork2 (f:=2) (ordf:=[0,2,1,3,4,5]) (Rf:=[3,4,5]) (by kernel_rfl) (by kernel_rfl) (by kernel_rfl) (by kernel_rfl) (by kernel_rfl) ?_ ?_
    ·refine ap1_mo (Pd':=[]) rfl rfl rfl trivial (mo_makeChan (m:=0) (k:=.i64) rfl (by omega) (by omega)) (fun v L' _ p hp=>by cases hp) ?_
     rintro v' L' ⟨ce,rfl,rfl⟩
     refine ap_loud rfl rfl rfl rfl rfl trivial (mo_makeChan (m:=0) (k:=.i64) rfl (by omega) (by omega)) ?_
     rintro v' L' ⟨cs,rfl,rfl⟩
     repeat (first | (apply ap_pure;exact rfl;exact rfl;exact trivial;intro L;apply mo_build (pv:=[(0,_),(1,_),(2,_)]);exact rfl;exact .cons rfl (.cons rfl (.cons rfl .nil));exact rfl))
     refine ap_loud rfl rfl rfl rfl rfl trivial (mo_box rfl) ?_
     rintro v' L' ⟨sb,rfl,rfl⟩
     repeat (first | refine aA ?_ | refine ap_end ?_)
     refine at_mid (B:=mT) (I:=MI) (sb,cs,ct,ce) trivial ?_ ?_ rfl
     exact ⟨rfl,rfl,rfl,rfl,rfl,rfl,rfl,rfl,rfl,rfl,trivial⟩
     repeat (first | exact Ent.refl | (apply Ent.take;(repeat (first | exact Has.here | apply Has.there))) | apply Ent.drop)
    ·refine ap1_mo (Pd':=[]) rfl rfl rfl trivial (mo_makeChan (m:=0) (k:=.i64) rfl (by omega) (by omega)) (fun v L' _ p hp=>by cases hp) ?_
     rintro v' L' ⟨cs,rfl,rfl⟩
     refine ap_loud rfl rfl rfl rfl rfl trivial (mo_makeChan (m:=0) (k:=.i64) rfl (by omega) (by omega)) ?_
     rintro v' L' ⟨ce,rfl,rfl⟩
     repeat (first | (apply ap_pure;exact rfl;exact rfl;exact trivial;intro L;apply mo_build (pv:=[(0,_),(1,_),(2,_)]);exact rfl;exact .cons rfl (.cons rfl (.cons rfl .nil));exact rfl))
     refine ap_loud rfl rfl rfl rfl rfl trivial (mo_box rfl) ?_
     rintro v' L' ⟨sb,rfl,rfl⟩
     repeat (first | refine aA ?_ | refine ap_end ?_)
     refine at_mid (B:=mT) (I:=MI) (sb,cs,ct,ce) trivial ?_ ?_ rfl
     exact ⟨rfl,rfl,rfl,rfl,rfl,rfl,rfl,rfl,rfl,rfl,trivial⟩
     repeat (first | exact Ent.refl | (apply Ent.take;(repeat (first | exact Has.here | apply Has.there))) | apply Ent.drop)
   ·refine ap1_mo (Pd':=[]) rfl rfl rfl trivial (mo_makeChan (m:=0) (k:=.i64) rfl (by omega) (by omega)) (fun v L' _ p hp=>by cases hp) ?_
    rintro v' L' ⟨ce,rfl,rfl⟩
    refine ap_fork2 (f:=2) (ordf:=[1,2,0,3,4,5]) (Rf:=[3,4,5]) (by kernel_rfl) (by kernel_rfl) (by kernel_rfl) (by kernel_rfl) (by kernel_rfl) ?_ ?_
    ·refine ap1_mo (Pd':=[]) rfl rfl rfl trivial (mo_makeChan (m:=0) (k:=.i64) rfl (by omega) (by omega)) (fun v L' _ p hp=>by cases hp) ?_
     rintro v' L' ⟨ct,rfl,rfl⟩
     refine ap_loud rfl rfl rfl rfl rfl trivial (mo_makeChan (m:=0) (k:=.i64) rfl (by omega) (by omega)) ?_
     rintro v' L' ⟨cs,rfl,rfl⟩
     repeat (first | (apply ap_pure;exact rfl;exact rfl;exact trivial;intro L;apply mo_build (pv:=[(0,_),(1,_),(2,_)]);exact rfl;exact .cons rfl (.cons rfl (.cons rfl .nil));exact rfl))
     refine ap_loud rfl rfl rfl rfl rfl trivial (mo_box rfl) ?_
     rintro v' L' ⟨sb,rfl,rfl⟩
     repeat (first | refine aA ?_ | refine ap_end ?_)
     refine at_mid (B:=mT) (I:=MI) (sb,cs,ct,ce) trivial ?_ ?_ rfl
     exact ⟨rfl,rfl,rfl,rfl,rfl,rfl,rfl,rfl,rfl,rfl,trivial⟩
     repeat (first | exact Ent.refl | (apply Ent.take;(repeat (first | exact Has.here | apply Has.there))) | apply Ent.drop)
    ·refine ap1_mo (Pd':=[]) rfl rfl rfl trivial (mo_makeChan (m:=0) (k:=.i64) rfl (by omega) (by omega)) (fun v L' _ p hp=>by cases hp) ?_
     rintro v' L' ⟨cs,rfl,rfl⟩
     refine ap_loud rfl rfl rfl rfl rfl trivial (mo_makeChan (m:=0) (k:=.i64) rfl (by omega) (by omega)) ?_
     rintro v' L' ⟨ct,rfl,rfl⟩
     repeat (first | (apply ap_pure;exact rfl;exact rfl;exact trivial;intro L;apply mo_build (pv:=[(0,_),(1,_),(2,_)]);exact rfl;exact .cons rfl (.cons rfl (.cons rfl .nil));exact rfl))
     refine ap_loud rfl rfl rfl rfl rfl trivial (mo_box rfl) ?_
     rintro v' L' ⟨sb,rfl,rfl⟩
     repeat (first | refine aA ?_ | refine ap_end ?_)
     refine at_mid (B:=mT) (I:=MI) (sb,cs,ct,ce) trivial ?_ ?_ rfl
     exact ⟨rfl,rfl,rfl,rfl,rfl,rfl,rfl,rfl,rfl,rfl,trivial⟩
     repeat (first | exact Ent.refl | (apply Ent.take;(repeat (first | exact Has.here | apply Has.there))) | apply Ent.drop)
   ·refine ap1_mo (Pd':=[]) rfl rfl rfl trivial (mo_makeChan (m:=0) (k:=.i64) rfl (by omega) (by omega)) (fun v L' _ p hp=>by cases hp) ?_
    rintro v' L' ⟨cs,rfl,rfl⟩
    refine ap_fork2 (f:=1) (ordf:=[2,1,0,3,4,5]) (Rf:=[3,4,5]) (by kernel_rfl) (by kernel_rfl) (by kernel_rfl) (by kernel_rfl) (by kernel_rfl) ?_ ?_
    ·refine ap1_mo (Pd':=[]) rfl rfl rfl trivial (mo_makeChan (m:=0) (k:=.i64) rfl (by omega) (by omega)) (fun v L' _ p hp=>by cases hp) ?_
     rintro v' L' ⟨ct,rfl,rfl⟩
     refine ap_loud rfl rfl rfl rfl rfl trivial (mo_makeChan (m:=0) (k:=.i64) rfl (by omega) (by omega)) ?_
     rintro v' L' ⟨ce,rfl,rfl⟩
     repeat (first | (apply ap_pure;exact rfl;exact rfl;exact trivial;intro L;apply mo_build (pv:=[(0,_),(1,_),(2,_)]);exact rfl;exact .cons rfl (.cons rfl (.cons rfl .nil));exact rfl))
     refine ap_loud rfl rfl rfl rfl rfl trivial (mo_box rfl) ?_
     rintro v' L' ⟨sb,rfl,rfl⟩
     repeat (first | refine aA ?_ | refine ap_end ?_)
     refine at_mid (B:=mT) (I:=MI) (sb,cs,ct,ce) trivial ?_ ?_ rfl
     exact ⟨rfl,rfl,rfl,rfl,rfl,rfl,rfl,rfl,rfl,rfl,trivial⟩
     repeat (first | exact Ent.refl | (apply Ent.take;(repeat (first | exact Has.here | apply Has.there))) | apply Ent.drop)
    ·refine ap1_mo (Pd':=[]) rfl rfl rfl trivial (mo_makeChan (m:=0) (k:=.i64) rfl (by omega) (by omega)) (fun v L' _ p hp=>by cases hp) ?_
     rintro v' L' ⟨ce,rfl,rfl⟩
     refine ap_loud rfl rfl rfl rfl rfl trivial (mo_makeChan (m:=0) (k:=.i64) rfl (by omega) (by omega)) ?_
     rintro v' L' ⟨ct,rfl,rfl⟩
     repeat (first | (apply ap_pure;exact rfl;exact rfl;exact trivial;intro L;apply mo_build (pv:=[(0,_),(1,_),(2,_)]);exact rfl;exact .cons rfl (.cons rfl (.cons rfl .nil));exact rfl))
     refine ap_loud rfl rfl rfl rfl rfl trivial (mo_box rfl) ?_
     rintro v' L' ⟨sb,rfl,rfl⟩
     repeat (first | refine aA ?_ | refine ap_end ?_)
     refine at_mid (B:=mT) (I:=MI) (sb,cs,ct,ce) trivial ?_ ?_ rfl
     exact ⟨rfl,rfl,rfl,rfl,rfl,rfl,rfl,rfl,rfl,rfl,trivial⟩
     repeat (first | exact Ent.refl | (apply Ent.take;(repeat (first | exact Has.here | apply Has.there))) | apply Ent.drop)
  ·rintro ⟨sb,cs,ct,ce⟩ _
   simp only [MI,seatMid]
   repeat (first | refine we_seq ?_ | (refine wR ?_;try simp only [oS]) | refine wM ?_)
   refine wo_call (.cons rfl (.cons rfl (.cons rfl .nil))) trivial (Tr.ent (L':=g.U s::ts[j].M::arr sb 0 [.chan (some ct),.chan (some ce),.chan (some cs),.int .u8 0,.int .i64 0,.bool false]::ob cs newChan::ob ct newChan::ob ce newChan::arr pb 0 [ss,.slice none 0 0,.slice none 0 0]::vec 1 ss (ptrs ids)::all (seatCs g ids qs)::all ((ts.drop (j+1)).map Thr.M)::arr rb 0 [.slice none 0 0,.slice none 0 0]::shpC wg 132 2::F) (.take (.there (.there (.there (.there .here)))) (.take (.there (.there (.there (.there (.there (.there (.there .here))))))) (.take .here (.take .here (.take .here (.take .here .refl)))))) (run_tr hTO (by have:=hS j hlt;rw [hst] at this;exact this) (by rw [hsl];omega) (fun h st=>shp_of (.there (.there (.there (.there (.there .here))))) st))) ?_
   rintro v' L' x' ⟨rfl,rfl,rfl⟩
   refine wo_pure (of_has (.there (.there (.there (.there .here)))) (vec_shape (by omega))) ?_
   rintro ⟨sa,sn,sc,rfl,hsn,_⟩
   have hsn:sn=ids.length:=by simp [ptrs] at hsn;omega
   subst hsn
   repeat (first | (apply wo_mo;apply mo_buildSlice (sz:=1) (vs:=[.pointer (some ⟨sb,0,none⟩)]);exact rfl;exact .cons rfl .nil;exact rfl;(intro v hv;cases (List.mem_singleton.1 hv);exact rfl);omega;exact trivial) | (refine wR ?_;try simp only [oS]) | refine wo_nil ?_ | refine wM ?_ | refine wD ?_ | refine wL ?_)
   rintro v' L' ⟨nb,rfl,rfl⟩
   repeat (first | (apply wo_mo;apply mo_append (sz:=1) (new:=[.pointer (some ⟨sb,0,none⟩)]);exact rfl;exact rfl;exact rfl;exact rfl;exact (.there (.there (.there (.there (.there .here)))));exact rfl;exact .inr ⟨_,_,rfl,Rds.all .here⟩;(intro v hv;cases (List.mem_singleton.1 hv);exact rfl);(simp only [sliceLen];omega);exact trivial))
   rintro v' L' rfl
   refine wo_pure (of_has .here (vec_shape (by omega))) ?_
   rintro ⟨ua,un,uc,rfl,hun,_⟩
   repeat (first | refine wS ?_ | (refine wR ?_;try simp only [oS]) | refine wo_nil ?_ | refine wM ?_ | refine wD ?_ | refine wadd ?_)
   have hseats:seatCs g (ids++[⟨sb,cs,ct,ce⟩]) (qs++[(ts[j].ini s).2])=seatCs g ids qs++[seatC g ⟨sb,cs,ct,ce⟩ (ts[j].ini s).2]:=by
    unfold seatCs;rw [List.zipWith_append (by omega)];rfl
   have hseatS:seatSs (ids++[⟨sb,cs,ct,ce⟩]) (qs++[(ts[j].ini s).2])=seatSs ids qs++[seatS ⟨sb,cs,ct,ce⟩ (ts[j].ini s).2]:=by
    unfold seatSs;rw [List.zipWith_append (by omega)];rfl
   refine at_roundS (B:=mT) (I:=startInvP ts s0 wg pb rb (.slice oa order.length oc) (.slice (some ⟨tb,to,none⟩) ts.length tc) (shpC wg 132 2::F)) (R:=fun i'=>ts.length-i'.1<ts.length-j) (j+1,(ts[j].ini s).1,qs++[(ts[j].ini s).2],ids++[⟨sb,cs,ct,ce⟩],.slice ua un uc) (by show ts.length-(j+1)<ts.length-j;omega) ⟨by show j+1≤_;omega,by show (ids++[_]).length=j+1;simp;omega,?_⟩ ?_ (fun h st=>?_) ?_
   ·show startF (ts.take (j+1)) s0=_
    rw [List.take_succ_eq_append_getElem hlt,startF_snoc,hst]
   ·exact ⟨rfl,rfl,rfl,rfl,rfl,rfl,rfl,rfl,trivial⟩
   ·have s1:Star (seatR sb cs ct ce::arr sb 3 (lastC ((g.plan (ts[j].ini s).2).map (·.1)))::all (seatCs g ids qs)::g.U (ts[j].ini s).1::arr pb 0 [.slice ua un uc,.slice none 0 0,.slice none 0 0]::vec 1 (.slice ua un uc) (ptrs ids++[.pointer (some ⟨sb,0,none⟩)])::all ((ts.drop (j+1)).map Thr.M)::arr rb 0 [.slice none 0 0,.slice none 0 0]::shpC wg 132 2::F) h:=Ent.star (.take (.there (.there (.there .here))) (.take (.there (.there (.there .here))) (.take (.there (.there (.there (.there .here)))) (.take (.there (.there .here)) (.take (.there (.there .here)) (.take .here (.drop .refl))))))) st
    have s2:=star_push (c:=seatC g ⟨sb,cs,ct,ce⟩ (ts[j].ini s).2) (star_shut (M:=[_,_]) s1)
    rw [← hseats] at s2
    have e3:ptrs ids++[.pointer (some ⟨sb,0,none⟩)]=ptrs (ids++[⟨sb,cs,ct,ce⟩]):=by simp [ptrs]
    rw [e3] at s2
    exact Ent.star (.take (.there .here) (.take (.there .here) (.take (.there .here) (.take .here .refl)))) s2
   ·show gx g wg (seatSs (ids++[_]) (qs++[_])) _ _ _=_
    rw [hseatS]
    simp only [List.length_append,List.length_singleton]
    rfl
 ·obtain rfl:j=ts.length:=by omega
  rw [List.take_length] at hst
  rw [hsl]
  repeat (first | refine wlssF ?_ | refine we_seq ?_ | (refine wR ?_;try simp only [oS]) | refine wo_nil ?_ | refine wM ?_ | refine wE ?_ | refine wF ?_ | refine we_block ?_ | refine we_exit ?_)
  refine we_star (playL g pb ss (.slice none 0 0) (.slice none 0 0) ids (⟨s,qs,[]⟩:PS g) (arr rb 0 [.slice none 0 0,.slice none 0 0]::shpC wg 132 2::F)) (fun h st=>Ent.star (M:=playL g pb ss (.slice none 0 0) (.slice none 0 0) ids (⟨s,qs,[]⟩:PS g) (arr rb 0 [.slice none 0 0,.slice none 0 0]::shpC wg 132 2::F)) (.take (.there .here) (.take (.there .here) (.take (.there .here) (.take .here (.take .here (.drop .refl)))))) (vec_nil (sz:=3) st)) ?_
  refine we_loopN (ordInv (⟨s,qs,[]⟩:PS g) order ids wg pb rb (.slice oa order.length oc) ss (arr rb 0 [.slice none 0 0,.slice none 0 0]::shpC wg 132 2::F)) (fun i=>order.length-i.1) (0,.slice none 0 0) (Nat.zero_le _) ⟨rfl,rfl,rfl,rfl,rfl,rfl,trivial⟩ .refl rfl ?_
  have hI1:I (⟨s,qs,[]⟩:PS g):=by rw [hst] at hI0;exact hI0
  rintro ⟨i,tsv⟩ hi
  replace hi:i≤order.length:=hi
  have hpl:ids.length=(ordF (⟨s,qs,[]⟩:PS g) (order.take i)).qs.length:=by rw [ordF_len];show ids.length=qs.length;omega
  have hple:=ordF_le (order.take i) (⟨s,qs,[]⟩:PS g) (Nat.zero_le _)
  simp only [ordInv]
  by_cases hlt2:i<order.length
  ·obtain ⟨ob,oo,rfl,hrd⟩:=hro.rds (by omega)
   have hri:=hrd i (.int .i64 order[i]) (by rw [List.getElem?_map,List.getElem?_eq_getElem hlt2];rfl)
   repeat (first | (apply wo_po;apply mo_index1;exact rfl;exact rfl;omega;exact gY) | (apply wo_po;apply mo_load;exact rfl;exact .there (.there (.there (.there (.there (.there (.there hri))))));exact trivial) | refine wlssT ?_ | refine we_seq ?_ | (refine wR ?_;try simp only [oS]) | refine wo_nil ?_ | refine wM ?_ | refine wA ?_ | refine wT ?_ | refine we_skip ?_ | refine we_block ?_)
   refine wo_call (.cons rfl (.cons rfl .nil)) trivial (takes_tr hpl hple (hIo _ (hIord _ _ hI1))) ?_
   rintro v' L' x' ⟨ts',rfl,rfl,rfl⟩
   repeat (first | (refine wR ?_;try simp only [oS]) | refine wo_nil ?_ | refine wM ?_ | refine wadd ?_)
   have htk:(takeF (ordF (⟨s,qs,[]⟩:PS g) (order.take i)) order[i]).1=ordF (⟨s,qs,[]⟩:PS g) (order.take (i+1)):=by
    rw [List.take_succ_eq_append_getElem hlt2,ordF_snoc]
   rw [htk]
   refine at_round (B:=mT) (I:=ordInv (⟨s,qs,[]⟩:PS g) order ids wg pb rb (.slice (some ⟨ob,oo,none⟩) order.length oc) ss (arr rb 0 [.slice none 0 0,.slice none 0 0]::shpC wg 132 2::F)) (R:=fun i'=>order.length-i'.1<order.length-i) (i+1,ts') (by show order.length-(i+1)<order.length-i;omega) (show i+1≤order.length by omega) ?_ .refl rfl
   exact ⟨rfl,rfl,rfl,rfl,rfl,rfl,trivial⟩
  ·obtain rfl:i=order.length:=by omega
   rw [List.take_length] at hpl hple ⊢
   obtain ⟨p1,hp1⟩:∃ p1,ordF (⟨s,qs,[]⟩:PS g) order=p1:=⟨_,rfl⟩
   rw [hp1] at hpl hple ⊢
   repeat (first | refine wlssF ?_ | refine we_seq ?_ | (refine wR ?_;try simp only [oS]) | refine wo_nil ?_ | refine wA ?_ | refine wF ?_ | refine we_block ?_ | refine we_exit ?_)
   refine we_loopN (restInv I p1 ids wg pb rb ss (arr rb 0 [.slice none 0 0,.slice none 0 0]::shpC wg 132 2::F)) (fun i=>if i.2.2.2=true then i.1+1 else 0) (16385,p1,tsv,true) ⟨by rw [← hp1];exact hIord _ _ hI1,rfl,hple,by simp only [if_true];exact ⟨trivial,by omega⟩⟩ ⟨rfl,rfl,rfl,rfl,trivial⟩ .refl rfl ?_
   rintro ⟨n,p,tv2,more⟩ ⟨hIp,hq1,hq2,hq3⟩
   simp only at hIp hq1 hq2 hq3
   simp only [restInv]
   cases more with
   | true =>
    simp only [if_true] at hq3
    obtain ⟨n,rfl⟩:∃ m,n=m+1:=⟨n-1,by omega⟩
    have hpq:p.qs.length=ids.length:=by omega
    refine we_pure (of_has (.there (.there .here)) (vec_shape (by omega))) ?_
    rintro ⟨sa,sn,sc,rfl,hsn,_⟩
    have hsn:sn=ids.length:=by simp [ptrs] at hsn;omega
    subst hsn
    repeat (first | refine we_seq ?_ | (refine wR ?_;try simp only [oS]) | refine wo_nil ?_ | refine wM ?_ | refine wA ?_ | refine wD ?_ | refine wL ?_ | refine wE ?_ | refine wT ?_ | refine we_skip ?_ | refine we_block ?_)
    refine we_loopN (rndInvP p ids wg pb rb (.slice sa ids.length sc) (arr rb 0 [.slice none 0 0,.slice none 0 0]::shpC wg 132 2::F)) (fun i=>ids.length-i.1) (0,tv2) (Nat.zero_le _) ⟨rfl,rfl,rfl,rfl,rfl,rfl,trivial⟩ .refl rfl ?_
    rintro ⟨k,tv3⟩ hk
    replace hk:k≤ids.length:=hk
    simp only [rndInvP]
    by_cases hlt3:k<ids.length
    ·repeat (first | refine wlssT ?_ | refine we_seq ?_ | (refine wR ?_;try simp only [oS]) | refine wo_nil ?_ | refine wM ?_ | refine wA ?_ | refine wT ?_ | refine we_skip ?_ | refine we_block ?_)
     refine wo_call (.cons rfl (.cons rfl .nil)) trivial (takes_tr (by rw [roundF_len];omega) (roundF_le hq2 k) (hIo _ (hIrnd _ _ hIp))) ?_
     rintro v' L' x' ⟨ts',rfl,rfl,rfl⟩
     have hnx:roundF p (k+1)=((takeF (roundF p k).1 k).1,(takeF (roundF p k).1 k).2||(roundF p k).2):=rfl
     have hr1:(roundF p (k+1)).1=(takeF (roundF p k).1 k).1:=rfl
     obtain ⟨b,hb⟩:∃ b,(takeF (roundF p k).1 k).2=b:=⟨_,rfl⟩
     rw [hb,← hr1]
     cases b with
     | true =>
      repeat (first | (refine wR ?_;try simp only [oS]) | refine wo_nil ?_ | refine wM ?_ | refine wA ?_ | (apply wo_no;exact rfl) | refine wK ?_ | refine wadd ?_)
      refine at_round (B:=mT) (I:=rndInvP p ids wg pb rb (.slice sa ids.length sc) (arr rb 0 [.slice none 0 0,.slice none 0 0]::shpC wg 132 2::F)) (R:=fun i'=>ids.length-i'.1<ids.length-k) (k+1,ts') (by show ids.length-(k+1)<ids.length-k;omega) (show k+1≤ids.length by omega) ?_ .refl rfl
      exact ⟨rfl,rfl,rfl,by rw [hnx,hb];rfl,rfl,rfl,trivial⟩
     | false =>
      repeat (first | (refine wR ?_;try simp only [oS]) | refine wo_nil ?_ | refine wM ?_ | refine wA ?_ | refine wJ ?_ | refine wadd ?_)
      refine at_round (B:=mT) (I:=rndInvP p ids wg pb rb (.slice sa ids.length sc) (arr rb 0 [.slice none 0 0,.slice none 0 0]::shpC wg 132 2::F)) (R:=fun i'=>ids.length-i'.1<ids.length-k) (k+1,ts') (by show ids.length-(k+1)<ids.length-k;omega) (show k+1≤ids.length by omega) ?_ .refl rfl
      exact ⟨rfl,rfl,rfl,by rw [hnx,hb];rfl,rfl,rfl,trivial⟩
    ·obtain rfl:k=ids.length:=by omega
     repeat (first | refine wlssF ?_ | refine we_seq ?_ | (refine wR ?_;try simp only [oS]) | refine wo_nil ?_ | refine wF ?_ | refine we_exit ?_)
     have hg:=roundF_grow p ids.length
     have hle3:=roundF_le hq2 ids.length
     have hrest:restF (n+1) p=if (roundF p ids.length).2=true then restF n (roundF p ids.length).1 else (roundF p ids.length).1:=by
      show (if (roundF p p.qs.length).2=true then restF n (roundF p p.qs.length).1 else (roundF p p.qs.length).1)=_
      rw [hpq]
     refine at_round (B:=mT) (I:=restInv I p1 ids wg pb rb (.slice sa ids.length sc) (arr rb 0 [.slice none 0 0,.slice none 0 0]::shpC wg 132 2::F)) (R:=fun i'=>(if i'.2.2.2=true then i'.1+1 else 0)<(if true=true then (n+1)+1 else 0)) (n,(roundF p ids.length).1,tv3,(roundF p ids.length).2) ?_ ⟨hIrnd _ _ hIp,by show (roundF p ids.length).1.qs.length=_;rw [roundF_len];exact hq1,hle3,?_⟩ ?_ .refl rfl
     ·show (if (roundF p ids.length).2=true then n+1 else 0)<(if true=true then (n+1)+1 else 0)
      simp only [if_true]
      split <;> omega
     ·simp only
      rw [hrest] at hq3
      cases hb:(roundF p ids.length).2 with
      | true=>rw [hb] at hq3 hg;simp only [if_true] at hq3 hg ⊢;exact ⟨hq3.1,by omega⟩
      | false=>rw [hb] at hq3;simpa using hq3.1
     ·exact ⟨rfl,rfl,rfl,rfl,trivial⟩
   | false =>
    simp only [Bool.false_eq_true,if_false] at hq3
    have hplay:playF ts s0 order=p:=by rw [hq3,← hp1];unfold playF;rw [hst]
    rw [hplay] at hQ
    have hpq:p.qs.length=ids.length:=by omega
    refine we_pure (of_has (.there (.there .here)) (vec_shape (by omega))) ?_
    rintro ⟨sa,sn,sc,rfl,hsn,_,hnz,hy⟩
    have hsn:sn=ids.length:=by simp [ptrs] at hsn;omega
    subst hsn
    cases sa with
    | none=>have:=hnz rfl;omega
    | some ad =>
    obtain ⟨sb,so,sp⟩:=ad
    have:=hy _ rfl
    simp only [Addr.mk.injEq,true_and] at this
    subst this
    repeat (first | refine we_seq ?_ | (refine wR ?_;try simp only [oS]) | refine wo_nil ?_ | refine wM ?_ | refine wD ?_ | refine wL ?_ | refine wE ?_ | refine wF ?_ | refine we_block ?_ | refine we_exit ?_)
    refine we_star (vec 1 (.slice none 0 0) (cutC (cutN g p.qs 0))::arr pb 0 [.slice (some ⟨sb,so,none⟩) ids.length sc,tv2,.slice none 0 0]::vec 1 (.slice (some ⟨sb,so,none⟩) ids.length sc) (ptrs ids)::vec 3 tv2 (trCP p.tr)::all (seatCs g ids p.qs)::g.U p.s::arr rb 0 [.slice none 0 0,.slice none 0 0]::shpC wg 132 2::F) (fun h st=>vec_nil (Ent.star (.take (.there .here) (.take (.there .here) (.take (.there .here) (.take (.there .here) (.take .here .refl))))) st)) ?_
    refine we_loopN (cutInv p ids wg pb rb (.slice (some ⟨sb,so,none⟩) ids.length sc) tv2 (arr rb 0 [.slice none 0 0,.slice none 0 0]::shpC wg 132 2::F)) (fun i=>ids.length-i.1) (0,.slice none 0 0) (Nat.zero_le _) ⟨rfl,rfl,rfl,rfl,rfl,rfl,trivial⟩ .refl (by simp only [cutInv];rw [shutS_zero]) ?_
    rintro ⟨k,cv⟩ hk
    replace hk:k≤ids.length:=hk
    simp only [cutInv]
    by_cases hlt3:k<ids.length
    ·have hi:ids[k]?=some ids[k]:=List.getElem?_eq_getElem hlt3
     have hq:p.qs[k]?=some (p.qs[k]'(by omega)):=List.getElem?_eq_getElem _
     obtain ⟨i,hie⟩:∃ i,ids[k]=i:=⟨_,rfl⟩
     obtain ⟨q,hqe⟩:∃ q,(p.qs[k]'(by omega))=q:=⟨_,rfl⟩
     rw [hie] at hi
     rw [hqe] at hq
     let er:=all ((seatCs g ids p.qs).eraseIdx k)
     refine we_star (seatR i.sb i.says i.turn i.fin::arr i.sb 3 (lastQ g q)::er::vec 1 cv (cutC (cutN g p.qs k))::arr pb 0 [.slice (some ⟨sb,so,none⟩) ids.length sc,tv2,cv]::vec 1 (.slice (some ⟨sb,so,none⟩) ids.length sc) (ptrs ids)::vec 3 tv2 (trCP p.tr)::g.U p.s::arr rb 0 [.slice none 0 0,.slice none 0 0]::shpC wg 132 2::F) (fun h st=>seat_pick hi hq (((.there (.there (.there (.there .here)))):Has (_::_::_::_::all (seatCs g ids p.qs)::_) _ _).star st)) ?_
     have hback:∀ {cv':Value} {cl:List Value} h,Star (seatR i.sb i.says i.turn i.fin::arr i.sb 3 (lastQ g q)::er::vec 1 cv' cl::arr pb 0 [.slice (some ⟨sb,so,none⟩) ids.length sc,tv2,cv']::vec 1 (.slice (some ⟨sb,so,none⟩) ids.length sc) (ptrs ids)::vec 3 tv2 (trCP p.tr)::g.U p.s::arr rb 0 [.slice none 0 0,.slice none 0 0]::shpC wg 132 2::F) h →
       Star (vec 1 cv' cl::arr pb 0 [.slice (some ⟨sb,so,none⟩) ids.length sc,tv2,cv']::vec 1 (.slice (some ⟨sb,so,none⟩) ids.length sc) (ptrs ids)::vec 3 tv2 (trCP p.tr)::all (seatCs g ids p.qs)::g.U p.s::arr rb 0 [.slice none 0 0,.slice none 0 0]::shpC wg 132 2::F) h:=fun h st=>by
      have s1:=seat_put (q':=q) hi hq st
      rw [set_same hq] at s1
      exact Ent.star (.take (.there .here) (.take (.there .here) (.take (.there .here) (.take (.there .here) (.take .here .refl))))) s1
     have hcl:(cutN g p.qs k).length≤k:=by have:=List.length_filter_le (fun k=>((p.qs[k]?).bind g.plan).isSome) (List.range k);rw [List.length_range] at this;exact this
     have hget:(shutS ids p.qs k)[k]?=some (⟨i.says,i.turn,i.fin,.said q⟩:Seat g.σ g.θ):=by rw [shutS_get hi hq,if_neg (by omega)];rfl
     have hsl2:ids.length=(shutS ids p.qs k).length:=(shutS_len hpq.symm).symm
     have rs:∀ {a b c d e:HProp} {M:List HProp},Rd (a::b::c::d::e::vec 1 (.slice (some ⟨sb,so,none⟩) ids.length sc) (ptrs ids)::M) sb (so+k) (.pointer (some ⟨i.sb,0,none⟩)):=rd_vec (cs:=ptrs ids) (.there (.there (.there (.there (.there .here))))) (by simp [ptrs,hi])
     refine we_pure (of_has (.there (.there (.there .here))) (vec_shape (by omega))) ?_
     rintro ⟨ca,cn,cc,rfl,hcn,_⟩
     have hcn:cn=(cutN g p.qs k).length:=by simp [cutC] at hcn;omega
     subst hcn
     cases hpl2:g.plan q with
     | none =>
      have hlq:lastQ g q=[.int .u8 0,.int .i64 0,.bool true]:=by unfold lastQ;rw [hpl2];rfl
      have hcut:cutN g p.qs (k+1)=cutN g p.qs k:=by rw [cutN_succ,hq];simp [hpl2]
      rw [hlq] at hback ⊢
      have rl:∀ {a:HProp} {M:List HProp},Rd (a::arr i.sb 3 [.int .u8 0,.int .i64 0,.bool true]::M) i.sb 5 (.bool true):=.there (Rd.row (k:=2) rfl rfl)
      have re:∀ {M:List HProp},Rd (seatR i.sb i.says i.turn i.fin::M) i.sb 1 (.chan (some i.fin)):=Rd.fro (k:=1) rfl rfl
      repeat (first | (apply wo_po;apply mo_index1;exact rfl;exact rfl;omega;exact gY) | (apply wo_po;apply mo_load;exact rfl;(first | exact rs | exact rl | exact re);exact trivial) | refine wlssT ?_ | refine we_seq ?_ | (refine wR ?_;try simp only [oS]) | refine wo_nil ?_ | refine wM ?_ | refine wA ?_ | refine wN ?_ | refine wD ?_ | (apply wo_po;apply mo_not;exact rfl;exact gY) | refine wT ?_ | refine wF ?_ | refine we_skip ?_ | refine we_block ?_)
      refine wo_shut (X:=⟨g,wg,shutS ids p.qs k,some p.s,16384-p.tr.length,ids.length,false,.play,none,0⟩) (j:=k) (c:=⟨i.says,i.turn,i.fin,.said q⟩) (q0:=q) rfl rfl rfl hsl2 rfl hget rfl trivial (by decide) ?_
      repeat (first | (refine wR ?_;try simp only [oS]) | refine wo_nil ?_ | refine wM ?_ | refine wadd ?_)
      refine at_roundS (B:=mT) (I:=cutInv p ids wg pb rb (.slice (some ⟨sb,so,none⟩) ids.length sc) tv2 (arr rb 0 [.slice none 0 0,.slice none 0 0]::shpC wg 132 2::F)) (R:=fun i'=>ids.length-i'.1<ids.length-k) (k+1,.slice ca (cutN g p.qs k).length cc) (by show ids.length-(k+1)<ids.length-k;omega) (show k+1≤ids.length by omega) ?_ (fun h st=>?_) ?_
      ·exact ⟨rfl,rfl,rfl,rfl,rfl,rfl,trivial⟩
      ·show Star (vec 1 _ (cutC (cutN g p.qs (k+1)))::_) h
       rw [hcut]
       exact hback h st
      ·simp only [cutInv]
       rw [← shutS_succ hi hq]
     | some mf =>
      obtain ⟨m,f⟩:=mf
      have hlq:lastQ g q=[.int .u8 m.1,.int .i64 m.2,.bool false]:=by unfold lastQ;rw [hpl2];rfl
      have hcut:cutN g p.qs (k+1)=cutN g p.qs k++[k]:=by rw [cutN_succ,hq];simp [hpl2]
      rw [hlq] at hback ⊢
      have rl:∀ {a:HProp} {M:List HProp},Rd (a::arr i.sb 3 [.int .u8 m.1,.int .i64 m.2,.bool false]::M) i.sb 5 (.bool false):=.there (Rd.row (k:=2) rfl rfl)
      have re:∀ {a b:HProp} {M:List HProp},Rd (a::b::seatR i.sb i.says i.turn i.fin::M) i.sb 1 (.chan (some i.fin)):=.there (.there (Rd.fro (k:=1) rfl rfl))
      repeat (first | (apply wo_po;apply mo_index1;exact rfl;exact rfl;omega;exact gY) | (apply wo_po;apply mo_load;exact rfl;(first | exact rs | exact rl);exact trivial) | (apply wo_mo;apply mo_buildSlice (sz:=1) (vs:=[.int .i64 (k:Nat)]);exact rfl;exact .cons rfl .nil;exact rfl;(intro v hv;cases (List.mem_singleton.1 hv);exact rfl);omega;exact trivial) | refine wlssT ?_ | refine we_seq ?_ | (refine wR ?_;try simp only [oS]) | refine wo_nil ?_ | refine wM ?_ | refine wA ?_ | refine wN ?_ | refine wD ?_ | (apply wo_po;apply mo_not;exact rfl;exact gY) | refine wL ?_ | refine wT ?_ | refine we_skip ?_ | refine we_block ?_)
      rintro v' L' ⟨nb,rfl,rfl⟩
      repeat (first | (apply wo_mo;apply mo_append (sz:=1) (new:=[.int .i64 (k:Nat)]);exact rfl;exact rfl;exact rfl;exact rfl;exact (.there (.there (.there (.there .here))));exact rfl;exact .inr ⟨_,_,rfl,Rds.all .here⟩;(intro v hv;cases (List.mem_singleton.1 hv);exact rfl);(simp only [sliceLen];omega);exact trivial))
      rintro v' L' rfl
      refine wo_pure (of_has .here (vec_shape (by omega))) ?_
      rintro ⟨ua,un,uc,rfl,hun,_⟩
      repeat (first | refine wS ?_ | (apply wo_po;apply mo_load;exact rfl;exact re;exact trivial) | (refine wR ?_;try simp only [oS]) | refine wo_nil ?_ | refine wM ?_ | refine wN ?_ | refine wD ?_)
      refine wo_shut (X:=⟨g,wg,shutS ids p.qs k,some p.s,16384-p.tr.length,ids.length,false,.play,none,0⟩) (j:=k) (c:=⟨i.says,i.turn,i.fin,.said q⟩) (q0:=q) rfl rfl rfl hsl2 rfl hget rfl trivial (by decide) ?_
      repeat (first | (refine wR ?_;try simp only [oS]) | refine wo_nil ?_ | refine wM ?_ | refine wadd ?_)
      refine at_roundS (B:=mT) (I:=cutInv p ids wg pb rb (.slice (some ⟨sb,so,none⟩) ids.length sc) tv2 (arr rb 0 [.slice none 0 0,.slice none 0 0]::shpC wg 132 2::F)) (R:=fun i'=>ids.length-i'.1<ids.length-k) (k+1,.slice ua un uc) (by show ids.length-(k+1)<ids.length-k;omega) (show k+1≤ids.length by omega) ?_ (fun h st=>?_) ?_
      ·exact ⟨rfl,rfl,rfl,rfl,rfl,rfl,trivial⟩
      ·show Star (vec 1 _ (cutC (cutN g p.qs (k+1)))::_) h
       have e4:cutC (cutN g p.qs (k+1))=cutC (cutN g p.qs k)++[.int .i64 (k:Nat)]:=by rw [hcut];simp [cutC]
       rw [e4]
       exact hback h (Ent.star (.take (.there (.there .here)) (.take (.there (.there .here)) (.take (.there (.there .here)) (.take .here (.drop .refl))))) st)
      ·simp only [cutInv]
       rw [← shutS_succ hi hq]
    ·obtain rfl:k=ids.length:=by omega
     repeat (first | refine wlssF ?_ | refine we_seq ?_ | (refine wR ?_;try simp only [oS]) | refine wo_nil ?_ | refine wF ?_ | refine we_exit ?_)
     refine wo_call (.cons rfl .nil) trivial (wgWait_tr (X:=⟨g,wg,shutS ids p.qs ids.length,some p.s,16384-p.tr.length,ids.length,false,.play,none,0⟩) rfl (by show ids.length<1000;omega) (shutS_len hpq.symm).symm (shutS_closed hpq.symm) (fun d e=>by cases e) rfl (fun h st=>shp_of (.there (.there (.there (.there (.there (.there (.there .here))))))) st)) ?_
     rintro v' L' x' ⟨rfl,rfl,rfl⟩
     rw [show GX.ends ⟨g,wg,shutS ids p.qs ids.length,some p.s,16384-p.tr.length,ids.length,false,.play,none,0⟩=all (p.qs.map g.Fin) from congrArg all (shutS_all hpq.symm)]
     repeat (first | (apply wo_po;apply mo_loadA (vs:=[tv2,cv]);exact rfl;exact rfl;exact Rds.row (k:=1) (.there (.there .here)) (by intro i v hv;match i,hv with | 0,hv=>exact hv | 1,hv=>exact hv);exact trivial) | refine we_seq ?_ | (refine wR ?_;try simp only [oS]) | refine wo_nil ?_ | refine wD ?_)
     refine wo_pure (of_has (.there .here) (vec_shape (by omega))) ?_
     rintro ⟨ca,cn,cc,rfl,_⟩
     refine wo_pure (of_has (.there (.there (.there (.there .here)))) (vec_shape (by omega))) ?_
     rintro ⟨ta2,tn2,tc2,rfl,_⟩
     repeat (first | (apply wo_pm;apply mo_storeA (c:=0) (k:=0) (a:=0) (vs:=[.slice none 0 0,.slice none 0 0]);exact rfl;exact rfl;exact rfl;(intro w hw;simp [Value.cells] at hw;rcases hw with rfl | rfl <;> rfl);exact rfl;exact Nat.le_refl 2;exact (.there (.there (.there (.there (.there (.there (.there .here)))))));exact trivial) | refine wo_nil ?_ | refine wA ?_ | refine we_ret ?_)
     refine at_leaveM (rs:=[.cell 4 91,.tmp 5]) Try.func30 Try.results30 hQ (.inl rfl) (.cons (.cell (vs:=[.slice ta2 tn2 tc2,.slice ca cn cc]) rfl rfl (Rds.all (.there (.there (.there (.there (.there (.there (.there .here))))))))) (.cons (.tmp rfl) .nil)) ?_
     refine ⟨_,_,rfl,rfl,fun h st=>?_⟩
     rw [← hids]
     exact Ent.star (.take (.there (.there (.there (.there .here)))) (.take (.there .here) (.take (.there (.there (.there (.there .here)))) (.take .here (.drop (.drop (.drop (.drop (.drop .refl))))))))) st
theorem plays_tr {oa ta:Option Addr} {on oc tn tc:Nat} {order:List Int} (I:PS g→Prop) (hS:∀ j,j<ts.length→g.ok (startF (ts.take j) s0).1) (hI0:I ⟨(startF ts s0).1,(startF ts s0).2,[]⟩) (hIs:∀ p k,I p→I (takeF p k).1) (hIo:∀ p,I p→p.tr.length<16384→g.ok p.s) (hfin:∀ q h,g.Pv q h→g.Fin q h) (hts:∀ t∈ts,ThrOk g t.ini t.fv t.M) (h1:0<ts.length) (h16:ts.length≤16) (hor:order.length≤16384)
  (hrt:RdsO F ta tn (ts.map Thr.fv)) (hro:RdsO F oa on (order.map fun k=>.int .i64 k)) :
  Tr Try.prog mT 30 [.slice oa on oc,.slice ta tn tc] (g.U s0::all (ts.map Thr.M)::F) .idle fun v L' x' =>
   ∃ tv cv,v=.tuple #[.agg #[tv,cv],.int .i64 0]∧x'=.idle∧L'=vec 3 tv (trCP (playF ts s0 order).tr)::vec 1 cv (cutC (cutN g (playF ts s0 order).qs ts.length))::g.U (playF ts s0 order).s::all ((playF ts s0 order).qs.map g.Fin)::F :=
 playsR_tr I hS hI0 hIs hIo (fun t ht=>(hts t ht).r hfin) h1 h16 hor hrt hro
end
end
end Go.Proofs.Ytmkkanmkjfnpdaa
namespace Go.PB.Mach
section
structure In where
 op:Nat
 on:Nat:=0
 a:Nat:=0
 b:Nat:=0
 c:Nat:=0
 d:Nat:=0
 n:Nat:=0
structure Cl where
 code:List In
 data:List Nat:=[]
structure Wd where
 words:List (List Nat)
 nl:Nat
structure Th where
 calls:List Cl
 call:Nat:=0
 pc:Nat:=0
 r:Nat→Nat:=fun _=>0
 ans:List (Bool × List Nat):=[]
 over:Bool:=false
def fin:In:={ op:=23 }
def Th.cl (t:Th):Cl:=t.calls.getD t.call { code:=[] }
def Th.next (t:Th):In:=t.cl.code.getD t.pc fin
def Th.put (t:Th) (i v:Nat):Th:={ t with r:=upd t.r i (v%18446744073709551616) }
def Th.tell (t:Th) (v:Nat):Th:={ t with ans:=t.ans.modify t.call fun y=>(y.1,y.2++[v]) }
structure Wd.ok (w:Wd):Prop where
 n:w.words.length<1000000
 nl:w.nl<1000000
 len:∀ l∈w.words,l.length<1000000
 lt:∀ l∈w.words,∀ v∈l,v<18446744073709551616
def own (t0:Th) (x:In):Th :=
 let t:={ t0 with pc:=t0.pc+1 }
 match x.op with
 | 6=>t.put x.a x.n
 | 7=>t.put x.a (t.r x.b)
 | 8=>t.put x.a (t.r x.b+t.r x.c+x.n)
 | 9=>t.put x.a (t.r x.b+18446744073709551616-t.r x.c)
 | 10=>t.put x.a (t.r x.b*t.r x.c)
 | 11=>t.put x.a (if t.r x.c=0 then 0 else t.r x.b/t.r x.c)
 | 12=>t.put x.a (t.r x.b &&& t.r x.c)
 | 13=>t.put x.a (t.r x.b ||| t.r x.c)
 | 14=>t.put x.a (t.r x.b*2^x.n)
 | 15=>t.put x.a (t.r x.b/2^x.n)
 | 16=>t.put x.a (max (t.r x.b) (t.r x.c))
 | 17=>t.put x.a (t.cl.data.getD ((t.r x.b+x.n)%18446744073709551616) 0)
 | 18=>{ t with pc:=x.n }
 | 19=>if t.r x.a=t.r x.b then { t with pc:=x.n } else t
 | 20=>if t.r x.a<t.r x.b then { t with pc:=x.n } else t
 | 21=>if 9223372036854775808≤t.r x.a then { t with pc:=x.n } else t
 | 22=>t.tell (t.r x.a)
 | _=>t
def told (op:Nat):Bool:=1≤op&&op≤5
def Th.begun (t:Th):Th:=if t.ans.length=t.call then { t with ans:=t.ans++[(false,[])] } else t
def Th.done (t:Th):Th:={ t with ans:=t.ans.modify t.call fun y=>(true,y.2),call:=t.call+1,pc:=0,r:=fun _=>0 }
def onF:Nat→Th→Option Th
 | 0,_=>none
 | f+1,t =>
  if t.over=true then some t
  else if t.calls.length≤t.call then some { t with over:=true }
  else if told t.begun.next.op=true then some t.begun
  else if t.begun.next.op=23 then onF f t.begun.done
  else onF f (own t.begun t.begun.next)
def Th.place (t:Th):Nat:=(t.r t.next.b+t.next.n)%18446744073709551616
def op1 (x:In) (l:List Nat) (p:Nat) (r:Nat→Nat):List Nat × (Nat→Nat) :=
 let v:=l.getD p 0
 match x.op with
 | 1=>(l,upd r x.a v)
 | 2=>(l.set p (r x.a),r)
 | 3=>(l.set p ((v+r x.c)%18446744073709551616),upd r x.a ((v+r x.c)%18446744073709551616))
 | 4=>(l.set p (r x.c),upd r x.a v)
 | _=>if v=r x.c then (l.set p (r x.d),upd r x.a 1) else (l,upd r x.a 0)
def Wd.row (w:Wd) (on:Nat):List Nat:=w.words.getD on []
def opF (f:Nat) (w:Wd) (t:Th):Option (Wd × Th) :=
 if t.place<(w.row t.next.on).length then
  let y:=op1 t.next (w.row t.next.on) t.place t.r
  (onF f { t with pc:=t.pc+1,r:=y.2 }).map fun t'=>({ w with words:=w.words.set t.next.on y.1 },t')
 else none
def Th.mark (t:Th):Nat × Nat:=(t.next.op,t.place)
structure St where
 w:Wd
 l:List Th
 tr:List (Nat × Nat × Nat):=[]
def turn (f:Nat) (s:St) (k:Nat):Option St :=
 match s.l[k]? with
 | some t=>(opF f s.w t).map fun y=>⟨y.1,s.l.set k y.2,s.tr++[(k,t.mark)]⟩
 | none=>some s
def may (s:St) (k:Nat):Bool:=s.tr.length<16384&&(match s.l[k]? with | some t=>!t.over | none=>false)
def byOrder (f:Nat):St→List (Option Nat)→Option St
 | s,[]=>some s
 | s,none::o=>byOrder f s o
 | s,some k::o=>if may s k=true then (turn f s k).bind fun s=>byOrder f s o else byOrder f s o
def round (f:Nat):Nat→Nat→St→Bool→Option (St × Bool)
 | 0,_,s,q=>some (s,q)
 | m+1,k,s,q=>if may s k=true then (turn f s k).bind fun s=>round f m (k+1) s true else round f m (k+1) s q
def rounds (f:Nat):Nat→St→Option St
 | 0,_=>none
 | g+1,s=>(round f s.l.length 0 s false).bind fun y=>if y.2=true then rounds f g y.1 else some y.1
def begin_ (f:Nat):List Th→Option (List Th)
 | []=>some []
 | t::l=>(onF f t).bind fun t=>(begin_ f l).map fun l=>t::l
def play (f g:Nat) (w:Wd) (o:List (Option Nat)) (l:List (List Cl)):Option St :=
 (begin_ f (l.map fun c=>{ calls:=c })).bind fun l=>(byOrder f ⟨w,l,[]⟩ o).bind fun s=>rounds f g s
def In.ok (x:In):Bool:=1≤x.op&&x.op≤23&&x.a<24&&x.b<24&&x.c<24&&x.d<24&&x.on<1000&&x.n<18446744073709551616&&(!(18≤x.op&&x.op≤21)||x.n<1000000)&&(!(x.op=17)||!(x.a=x.b))&&(!(x.op=14||x.op=15)||x.n<64)
def Cl.ok (c:Cl):Bool:=c.code.all In.ok&&c.data.all (fun v=>v<18446744073709551616)&&c.code.length<1000000&&c.data.length<1000000
end
end Go.PB.Mach
namespace Go.Proofs.Ytmkkanmkjfnpdaa
open Go Go.PB
section
structure Wds where
 W:(Nat→Nat)→Mach.Wd
 un:Mach.Wd→(Nat→Nat)
 ok:(Nat→Nat)→Prop
 fu:Nat
 back:∀ f,W (un (W f))=W f
 okun:∀ f,ok f→ok (un (W f))
def mF (D:Wds) (q:Nat × Mach.Th) (f:Nat→Nat):(Nat→Nat) × (Nat × Mach.Th) :=
 match Mach.opF D.fu (D.W f) q.2 with
 | some y=>(D.un y.1,(q.1,y.2))
 | none=>(f,(q.1,{ q.2 with over:=true }))
def mkII (m:Nat × Nat):Int × Int:=(((m.1:Nat):Int),((m.2:Nat):Int))
def mPlan (D:Wds) (q:Nat × Mach.Th):Option ((Int × Int) × ((Nat→Nat)→(Nat→Nat) × (Nat × Mach.Th))) :=
 if q.2.over=true then none else some (mkII q.2.mark,mF D q)
def mG (D:Wds) (U:(Nat→Nat)→HProp) (Pv:Nat × Mach.Th→HProp):Game where
 σ:=Nat→Nat
 θ:=Nat × Mach.Th
 U:=U
 plan:=mPlan D
 ok:=D.ok
 Pv:=Pv
 Fin:=Pv
def GoodN (D:Wds):Nat→Mach.Th→Prop
 | 0,_=>True
 | n+1,t=>t.over=true∨t.over=false∧∀ f,D.ok f→∃ f' t',Mach.opF D.fu (D.W f) t=some (D.W f',t')∧D.ok f'∧GoodN D n t'
def GoodT (D:Wds) (t:Mach.Th):Prop:=∀ n,GoodN D n t
theorem GoodT.over {D:Wds} {t:Mach.Th} (h:t.over=true):GoodT D t
 | 0=>trivial
 | _+1=>.inl h
theorem GoodT.mk {D:Wds} {t:Mach.Th} (ho:t.over=false) (h:∀ f,D.ok f→∃ f' t',Mach.opF D.fu (D.W f) t=some (D.W f',t')∧D.ok f'∧GoodT D t'):GoodT D t
 | 0=>trivial
 | n+1=>.inr ⟨ho,fun f hf=>by
  obtain ⟨f',t',h1,h2,h3⟩:=h f hf
  exact ⟨f',t',h1,h2,h3 n⟩⟩
theorem GoodT.on {D:Wds} {t:Mach.Th} (g:GoodT D t) (ho:t.over=false):∀ f,D.ok f→∃ f' t',Mach.opF D.fu (D.W f) t=some (D.W f',t')∧D.ok f'∧GoodT D t':=by
 have at_:∀ n f,D.ok f→∃ f' t',Mach.opF D.fu (D.W f) t=some (D.W f',t')∧D.ok f'∧GoodN D n t':=fun n f hf=>by
  rcases g (n+1) with h | ⟨_,h⟩
  ·rw [h] at ho;cases ho
  ·exact h f hf
 intro f hf
 obtain ⟨f',t',h1,h2,_⟩:=at_ 0 f hf
 refine ⟨f',t',h1,h2,fun n=>?_⟩
 obtain ⟨g',u',e1,_,e3⟩:=at_ n f hf
 rw [h1] at e1
 simp only [Option.some.injEq,Prod.mk.injEq] at e1
 rw [e1.2]
 exact e3
section
variable {D:Wds} {U:(Nat→Nat)→HProp} {Pv:Nat × Mach.Th→HProp}
theorem takeF_some {g:Game} {p:PS g} {n:Nat} {q:g.θ} {m:Int × Int} {f:g.σ→g.σ × g.θ} (hq:p.qs[n]?=some q) (hp:g.plan q=some (m,f)) (h16:p.tr.length≠16384):takeF p n=(⟨(f p.s).1,p.qs.set n (f p.s).2,p.tr++[(n,m)]⟩,true):=by
 unfold takeF
 rw [if_neg (by omega),Int.toNat_natCast,hq]
 simp only [hp]
 rw [if_neg h16]
theorem takeF_none {g:Game} {p:PS g} {n:Nat} {q:g.θ} (hq:p.qs[n]?=some q) (hp:g.plan q=none):takeF p n=(p,false):=by
 unfold takeF
 rw [if_neg (by omega),Int.toNat_natCast,hq]
 simp only [hp]
structure Rel (p:PS (mG D U Pv)) (st:Mach.St):Prop where
 w:st.w=D.W p.s
 len:p.qs.length=st.l.length
 qs:∀ k:Nat,p.qs[k]?=(st.l[k]?).map fun t=>(k,t)
 tr:p.tr=st.tr.map fun e=>(e.1,mkII e.2)
 le:st.tr.length≤16384
 good:∀ t∈st.l,GoodT D t
 ok:D.ok p.s
theorem take_rel {p:PS (mG D U Pv)} {st:Mach.St} (h:Rel p st) (n:Nat):∃ st',(if Mach.may st n=true then Mach.turn D.fu st n else some st)=some st'∧Rel (takeF p n).1 st'∧(takeF p n).2=Mach.may st n∧st'.l.length=st.l.length:=by
 have hq:=h.qs n
 have htl:p.tr.length=st.tr.length:=by rw [h.tr];simp
 cases hl:st.l[n]? with
 | none =>
  rw [hl] at hq
  have hm:Mach.may st n=false:=by unfold Mach.may;rw [hl];simp
  have ht:takeF p n=(p,false):=by unfold takeF;rw [if_neg (by omega),Int.toNat_natCast,hq];rfl
  rw [hm,ht]
  exact ⟨st,rfl,h,rfl,rfl⟩
 | some t =>
  rw [hl] at hq
  have hmem:t∈st.l:=List.mem_of_getElem? hl
  by_cases ho:t.over=true
  ·have hm:Mach.may st n=false:=by unfold Mach.may;rw [hl];simp [ho]
   have hp:(mG D U Pv).plan (n,t)=none:=if_pos ho
   have ht:takeF p n=(p,false):=takeF_none hq hp
   rw [hm,ht]
   exact ⟨st,rfl,h,rfl,rfl⟩
  ·have ho':t.over=false:=by simpa using ho
   by_cases h16:st.tr.length=16384
   ·have hm:Mach.may st n=false:=by unfold Mach.may;rw [h16];simp
    have ht:takeF p n=(p,false):=by
     rcases takeF_cases p n with e | ⟨_,_,_,_,_,_,_,e,_⟩
     ·exact e
     ·omega
    rw [hm,ht]
    exact ⟨st,rfl,h,rfl,rfl⟩
   ·have hm:Mach.may st n=true:=by
     unfold Mach.may;rw [hl]
     have:st.tr.length<16384:=by have:=h.le;omega
     simp [ho',this]
    obtain ⟨f',t',hop,hok,hg⟩:=(h.good t hmem).on ho' p.s h.ok
    have hp:(mG D U Pv).plan (n,t)=some (mkII t.mark,mF D (n,t)):=if_neg ho
    have hmf:mF D (n,t) p.s=(D.un (D.W f'),(n,t')):=by
     unfold mF
     have e:Mach.opF D.fu (D.W p.s) t=some (D.W f',t'):=hop
     simp only [e]
    have ht:=takeF_some hq hp (by omega)
    have e1:((mF D (n,t):(mG D U Pv).σ→(mG D U Pv).σ × (mG D U Pv).θ) p.s)=(D.un (D.W f'),(n,t')):=hmf
    rw [e1] at ht
    have hturn:Mach.turn D.fu st n=some ⟨D.W f',st.l.set n t',st.tr++[(n,t.mark)]⟩:=by
     unfold Mach.turn
     rw [hl,h.w]
     simp only
     rw [hop];rfl
    have hn:n<st.l.length:=(List.getElem?_eq_some_iff.1 hl).1
    rw [if_pos hm,hm,ht,hturn]
    refine ⟨_,rfl,⟨(D.back f').symm,(by show ((show List (Nat × Mach.Th) from p.qs).set n (n,t')).length=(st.l.set n t').length;rw [List.length_set,List.length_set];exact h.len),fun k=>?_,by simp [h.tr],by simp;have:=h.le;omega,fun u hu=>?_,D.okun f' hok⟩,rfl,by simp⟩
    ·show ((show List (Nat × Mach.Th) from p.qs).set n (n,t'))[k]?=_
     rw [List.getElem?_set,List.getElem?_set]
     by_cases e:n=k
     ·subst e
      rw [if_pos rfl,if_pos rfl,if_pos (show n<(show List (Nat × Mach.Th) from p.qs).length from h.len▸hn),if_pos hn];rfl
     ·rw [if_neg e,if_neg e];exact h.qs k
    ·rcases List.mem_or_eq_of_mem_set hu with hu | rfl
     ·exact h.good u hu
     ·exact hg
theorem ord_rel:∀ (o:List Int) {p:PS (mG D U Pv)} {st:Mach.St},Rel p st→∃ st',Mach.byOrder D.fu st (o.map fun k=>if k<0 then none else some k.toNat)=some st'∧Rel (ordF p o) st'∧st'.l.length=st.l.length
 | [],p,st,h=>⟨st,rfl,h,rfl⟩
 | k::o,p,st,h=>by
  rw [List.map_cons]
  by_cases h0:k<0
  ·rw [if_pos h0]
   have ht:takeF p k=(p,false):=by unfold takeF;rw [if_pos h0]
   obtain ⟨st',h1,h2,h3⟩:=ord_rel o h
   refine ⟨st',h1,?_,h3⟩
   show Rel (ordF (takeF p k).1 o) st'
   rw [ht];exact h2
  ·rw [if_neg h0]
   obtain ⟨n,rfl⟩:∃ n:Nat,k=n:=⟨k.toNat,by omega⟩
   rw [Int.toNat_natCast]
   obtain ⟨st1,h1,h2,h3,h4⟩:=take_rel h n
   obtain ⟨st',g1,g2,g3⟩:=ord_rel o h2
   refine ⟨st',?_,g2,by omega⟩
   unfold Mach.byOrder
   by_cases hm:Mach.may st n=true
   ·rw [if_pos hm] at h1 ⊢
    rw [h1];exact g1
   ·rw [if_neg hm] at h1 ⊢
    cases h1;exact g1
theorem round_snoc {f:Nat}:∀ (m k:Nat) (s:Mach.St) (q:Bool),Mach.round f (m+1) k s q=(Mach.round f m k s q).bind fun y=>if Mach.may y.1 (k+m)=true then (Mach.turn f y.1 (k+m)).bind fun s=>some (s,true) else some (y.1,y.2)
 | 0,k,s,q=>by
  show (if Mach.may s k=true then (Mach.turn f s k).bind fun s=>some (s,true) else some (s,q))=_
  rfl
 | m+1,k,s,q=>by
  rw [Mach.round]
  conv=>rhs;rw [Mach.round]
  by_cases hm:Mach.may s k=true
  ·rw [if_pos hm,if_pos hm]
   cases Mach.turn f s k with
   | none=>rfl
   | some s1 =>
    simp only [Option.bind_some]
    rw [round_snoc m (k+1) s1 true,show k+1+m=k+(m+1) by omega]
  ·rw [if_neg hm,if_neg hm]
   rw [round_snoc m (k+1) s q,show k+1+m=k+(m+1) by omega]
theorem round_rel {p:PS (mG D U Pv)} {st:Mach.St} (h:Rel p st):∀ n,∃ st',Mach.round D.fu n 0 st false=some (st',(roundF p n).2)∧Rel (roundF p n).1 st'∧st'.l.length=st.l.length
 | 0=>⟨st,rfl,h,rfl⟩
 | n+1=>by
  obtain ⟨st1,h1,h2,h3⟩:=round_rel h n
  obtain ⟨st2,g1,g2,g3,g4⟩:=take_rel h2 n
  refine ⟨st2,?_,g2,by omega⟩
  rw [round_snoc,h1]
  simp only [Option.bind_some,Nat.zero_add]
  show _=some (st2,(takeF (roundF p n).1 n).2||(roundF p n).2)
  rw [g3]
  by_cases hm:Mach.may st1 n=true
  ·rw [if_pos hm] at g1 ⊢
   rw [g1,hm];rfl
  ·rw [if_neg hm] at g1 ⊢
   cases g1
   rw [Bool.not_eq_true] at hm
   rw [hm];rfl
theorem rest_rel:∀ (n:Nat) {p:PS (mG D U Pv)} {st:Mach.St},Rel p st→16384<p.tr.length+n→∃ st',Mach.rounds D.fu n st=some st'∧Rel (restF n p) st'∧st'.l.length=st.l.length
 | 0,p,st,h,hn=>by
  have:=h.le
  have e:p.tr.length=st.tr.length:=by rw [h.tr];simp
  omega
 | n+1,p,st,h,hn=>by
  obtain ⟨st1,h1,h2,h3⟩:=round_rel h p.qs.length
  have hg:=roundF_grow p p.qs.length
  unfold Mach.rounds restF
  rw [← h.len,h1]
  simp only [Option.bind_some]
  by_cases hm:(roundF p p.qs.length).2=true
  ·rw [if_pos hm] at hg
   rw [if_pos hm,if_pos hm]
   obtain ⟨st',g1,g2,g3⟩:=rest_rel n h2 (by omega)
   exact ⟨st',g1,g2,g3.trans (h3.trans h.len.symm)⟩
  ·rw [if_neg hm,if_neg hm]
   exact ⟨st1,rfl,h2,h3.trans h.len.symm⟩
structure Begins (D:Wds) (U:(Nat→Nat)→HProp) (Pv:Nat × Mach.Th→HProp) (k0:Nat) (ts:List (Thr (mG D U Pv))) (cc:List (List Mach.Cl)):Prop where
 len:ts.length=cc.length
 ini:∀ (k:Nat) t c,ts[k]?=some t→cc[k]?=some c→∃ u,Mach.onF D.fu { calls:=c }=some u∧GoodT D u∧∀ s:(mG D U Pv).σ,t.ini s=(s,((k0+k,u):Nat × Mach.Th))
theorem begin_rel:∀ (ts:List (Thr (mG D U Pv))) (cc:List (List Mach.Cl)) (k0:Nat) (s:(mG D U Pv).σ),Begins D U Pv k0 ts cc→∃ l,Mach.begin_ D.fu (cc.map fun c=>{ calls:=c })=some l∧l.length=ts.length∧(∀ t∈l,GoodT D t)∧(startF ts s).1=s∧∀ k:Nat,(startF ts s).2[k]?=(l[k]?).map fun t=>(k0+k,t)
 | [],cc,k0,s,h=>by
  have:=h.len
  obtain rfl:cc=[]:=List.length_eq_zero_iff.1 this.symm
  exact ⟨[],rfl,rfl,fun t ht=>by simp at ht,rfl,fun k=>rfl⟩
 | t::ts,cc,k0,s,h=>by
  cases cc with
  | nil=>have:=h.len;simp at this
  | cons c cc =>
   obtain ⟨u,h1,h2,h3⟩:=h.ini 0 t c rfl rfl
   obtain ⟨l,g1,g2,g3,g4,g5⟩:=begin_rel ts cc (k0+1) s ⟨by have:=h.len;simp at this;exact this,fun k t' c' e1 e2=>by
    obtain ⟨u',a,b,d⟩:=h.ini (k+1) t' c' e1 e2
    exact ⟨u',a,b,fun s=>by rw [d s,show k0+(k+1)=k0+1+k by omega]⟩⟩
   refine ⟨u::l,?_,by simp [g2],?_,?_,?_⟩
   ·simp only [List.map_cons,Mach.begin_,h1,Option.bind_some,g1,Option.map_some]
   ·intro t' ht'
    rcases List.mem_cons.1 ht' with rfl | ht'
    ·exact h2
    ·exact g3 t' ht'
   ·show (startF ts (t.ini s).1).1=s
    rw [h3 s];exact g4
   ·intro k
    show ((t.ini s).2::(startF ts (t.ini s).1).2)[k]?=_
    rw [h3 s]
    cases k with
    | zero=>rfl
    | succ k =>
     simp only [List.getElem?_cons_succ]
     have:=g5 k
     rw [show k0+1+k=k0+(k+1) by omega] at this
     exact this
theorem play_rel {ts:List (Thr (mG D U Pv))} {cc:List (List Mach.Cl)} {s0:(mG D U Pv).σ} {o:List Int} (hb:Begins D U Pv 0 ts cc) (h0:D.ok s0):∃ st,Mach.play D.fu 16385 (D.W s0) (o.map fun k=>if k<0 then none else some k.toNat) cc=some st∧Rel (playF ts s0 o) st∧st.l.length=cc.length:=by
 obtain ⟨l,h1,h2,h3,h4,h5⟩:=begin_rel ts cc 0 s0 hb
 have hr:Rel (D:=D) (U:=U) (Pv:=Pv) ⟨(startF ts s0).1,(startF ts s0).2,[]⟩ ⟨D.W s0,l,[]⟩ :=
  ⟨congrArg D.W h4.symm,(startF_len ts (show (mG D U Pv).σ from s0)).trans h2.symm,fun k=>(h5 k).trans (by rw [Nat.zero_add]),rfl,Nat.zero_le _,h3,(show D.ok (startF ts (show (mG D U Pv).σ from s0)).1 from h4.symm▸h0)⟩
 obtain ⟨st1,g1,g2,g3⟩:=ord_rel o hr
 obtain ⟨st2,k1,k2,k3⟩:=rest_rel 16385 g2 (by omega)
 refine ⟨st2,?_,k2,?_⟩
 ·unfold Mach.play
  rw [h1];simp only [Option.bind_some];rw [g1];simp only [Option.bind_some];exact k1
 ·rw [k3,g3];show l.length=_;rw [h2,hb.len]
end
end
end Go.Proofs.Ytmkkanmkjfnpdaa
namespace Go.Proofs.Ytmkkanmkjfnpdaa
open Go Go.PB
attribute [local irreducible] Mo Bin Eql Tr Wo
section
structure Acc (B:Hand) (gv:Value) where
 S:Type
 C:S→HProp
 x:S→B.X
 step:Int→Nat→S→(S→Prop)→Prop
 addr:Nat→Nat × Nat
 load:Nat→S→(Nat→S→Prop)→Prop
 store:Nat→Nat→S→(S→Prop)→Prop
 cas:Nat→Nat→Nat→S→(Bool→S→Prop)→Prop
 add:Nat→Nat→S→(Nat→S→Prop)→Prop
 swap:Nat→Nat→S→(Nat→S→Prop)→Prop
 gate:(gv=.nilIface∧∀ op w s R,step op w s R→R s) ∨
  ∃ t p f,gv=.iface t p∧Met Try.prog t "Step" f∧Ent' Try.prog f∧∀ op w s R L F,step op w s R→Has L (C s) F →
   Tr Try.prog B f [p,.agg #[.int .u8 op,.int .i64 (w:Nat)]] L (x s) fun v L' x'=>∃ s',R s'∧v=.tuple #[]∧L'=C s'::F∧x'=x s'
 load_ok:∀ w s R L F b o,addr w=(b,o)→load w s R→Has L (C s) F→Tr Try.prog B 48 [.pointer (some ⟨b,o,none⟩)] L (x s) fun v L' x'=>∃ n s',n<18446744073709551616∧R n s'∧v=.int .u64 (n:Nat)∧L'=C s'::F∧x'=x s'
 store_ok:∀ w n s R L F b o,addr w=(b,o)→n<18446744073709551616→store w n s R→Has L (C s) F→Tr Try.prog B 62 [.pointer (some ⟨b,o,none⟩),.int .u64 (n:Nat)] L (x s) fun v L' x'=>∃ s',R s'∧v=.tuple #[]∧L'=C s'::F∧x'=x s'
 cas_ok:∀ w m n s R L F b o,addr w=(b,o)→n<18446744073709551616→cas w m n s R→Has L (C s) F→Tr Try.prog B 84 [.pointer (some ⟨b,o,none⟩),.int .u64 (m:Nat),.int .u64 (n:Nat)] L (x s) fun v L' x'=>∃ q s',R q s'∧v=.bool q∧L'=C s'::F∧x'=x s'
 add_ok:∀ w n s R L F b o,addr w=(b,o)→n<18446744073709551616→add w n s R→Has L (C s) F→Tr Try.prog B 65 [.pointer (some ⟨b,o,none⟩),.int .u64 (n:Nat)] L (x s) fun v L' x'=>∃ m s',m<18446744073709551616∧R m s'∧v=.int .u64 (m:Nat)∧L'=C s'::F∧x'=x s'
section
variable {B:Hand} [Lets B] {L F L1:List HProp}
theorem load_lone {b o:Nat} {n:Int} {x:B.X} (hr:Rd L b o (.int .u64 n)):Tr Try.prog B 48 [.pointer (some ⟨b,o,none⟩)] L x fun v L' x'=>v=.int .u64 n∧L'=L∧x'=x:=by
 refine tr_of_body Try.func48 rfl Try.ntmps48 (by simp) fun um Q _ hQ=>?_
 simp only [argE,Nat.zero_add,Nat.reduceAdd]
 repeat (first | (apply wo_po;apply mo_ext (args:=[_]);exact .cons rfl .nil;exact at_loadI hr;exact trivial) | refine we_seq ?_ | (refine wR ?_;try simp only [oS]) | refine wo_nil ?_ | refine wM ?_ | refine wA ?_ | refine wN ?_ | refine wD ?_ | refine we_ret ?_)
 (first | refine or1 Try.func48 Try.results48 hQ rfl ?_ | refine on1 Try.func48 Try.results48 hQ rfl ?_)
 exact ⟨rfl,rfl,rfl⟩
theorem store_lone {b o:Nat} {n:Int} {x:B.X} (hw:Wt L b o (.int .u64 n) L1):Tr Try.prog B 62 [.pointer (some ⟨b,o,none⟩),.int .u64 n] L x fun v L' x'=>v=.tuple #[]∧L'=L1∧x'=x:=by
 refine tr_of_body Try.func62 rfl Try.ntmps62 (by simp) fun um Q _ hQ=>?_
 simp only [argE,Nat.zero_add,Nat.reduceAdd]
 repeat (first | (apply wo_pm;apply mo_ext (args:=[_,_]);exact .cons rfl (.cons rfl .nil);exact at_storeI rfl hw;exact trivial) | (refine wR ?_;try simp only [oS]) | refine wo_nil ?_ | refine wM ?_ | refine wN ?_ | refine wD ?_)
 (first | refine or0 Try.func62 Try.results62 hQ ?_ | refine on0 Try.func62 Try.results62 hQ ?_)
 exact ⟨rfl,rfl,rfl⟩
theorem cas_lone {b o:Nat} {n m y:Int} {x:B.X} (hr:Rd L b o (.int .u64 n)) (hw:Wt L b o (.int .u64 y) L1):Tr Try.prog B 84 [.pointer (some ⟨b,o,none⟩),.int .u64 m,.int .u64 y] L x fun v L' x'=>v=.bool (decide (n=m))∧L'=(if n=m then L1 else L)∧x'=x:=by
 refine tr_of_body Try.func84 rfl Try.ntmps84 (by simp) fun um Q _ hQ=>?_
 simp only [argE,Nat.zero_add,Nat.reduceAdd]
 repeat (first | (apply wo_pm;apply mo_ext (args:=[_,_,_]);exact .cons rfl (.cons rfl (.cons rfl .nil));exact at_casI hr hw;exact trivial) | refine we_seq ?_ | (refine wR ?_;try simp only [oS]) | refine wo_nil ?_ | refine wM ?_ | refine wA ?_ | refine wN ?_ | refine wD ?_ | refine we_ret ?_)
 (first | refine or1 Try.func84 Try.results84 hQ rfl ?_ | refine on1 Try.func84 Try.results84 hQ rfl ?_)
 exact ⟨rfl,rfl,rfl⟩
theorem add_lone {b o:Nat} {n y r:Int} {x:B.X} (hr:Rd L b o (.int .u64 n)) (hn:IntKind.u64.wrap (n+y)=r) (hw:Wt L b o (.int .u64 r) L1):Tr Try.prog B 65 [.pointer (some ⟨b,o,none⟩),.int .u64 y] L x fun v L' x'=>v=.int .u64 r∧L'=L1∧x'=x:=by
 refine tr_of_body Try.func65 rfl Try.ntmps65 (by simp) fun um Q _ hQ=>?_
 simp only [argE,Nat.zero_add,Nat.reduceAdd]
 repeat (first | (apply wo_pm;apply mo_ext (args:=[_,_]);exact .cons rfl (.cons rfl .nil);exact at_addI hr hn hw;exact trivial) | refine we_seq ?_ | (refine wR ?_;try simp only [oS]) | refine wo_nil ?_ | refine wM ?_ | refine wA ?_ | refine wN ?_ | refine wD ?_ | refine we_ret ?_)
 (first | refine or1 Try.func65 Try.results65 hQ rfl ?_ | refine on1 Try.func65 Try.results65 hQ rfl ?_)
 exact ⟨rfl,rfl,rfl⟩
end
end
section
variable {B:Hand} [Lets B]
def loneAcc (x:B.X) (addr:Nat→Nat × Nat) (N:Nat) (K:List (Nat × Nat × Value)) (A:Apart addr N K):Acc B .nilIface where
 S:=Nat→Nat
 C:=wds addr N K
 x:=fun _=>x
 step:=fun _ _ s R=>R s
 addr:=addr
 load:=fun w s R=>w<N∧R (s w) s
 store:=fun w n s R=>w<N∧R (upd s w n)
 cas:=fun w a n s R=>w<N∧if s w=a then R true (upd s w n) else R false s
 add:=fun w n s R=>w<N∧R ((s w+n)%18446744073709551616) (upd s w ((s w+n)%18446744073709551616))
 swap:=fun w n s R=>w<N∧R (s w) (upd s w n)
 gate:=.inl ⟨rfl,fun _ _ _ _ h=>h⟩
 load_ok:=fun w s R L F b o ha hl hh=>tr_pure (of_has hh fun h hc=>(hc.1 w hl.1).1) fun hs =>
  (load_lone (rd_wds hh hl.1 ha)).post fun v L' x' ⟨h1,h2,h3⟩=>⟨_,⟨s w,s,hs,hl.2,h1,rfl,h3⟩,fun h st=>hh.star (h2▸st)⟩
 store_ok:=fun w n s R L F b o ha hn hl hh =>
  (store_lone (wt_wds A hh hl.1 ha hn)).mono fun v L' x' ⟨h1,h2,h3⟩=>⟨upd s w n,hl.2,h1,h2,h3⟩
 cas_ok:=fun w m n s R L F b o ha hn hl hh =>
  (cas_lone (rd_wds hh hl.1 ha) (wt_wds A hh hl.1 ha hn)).post fun v L' x' ⟨h1,h2,h3⟩=>by
   obtain ⟨h4,h5⟩:=hl
   by_cases e:s w=m
   ·rw [if_pos e] at h5;rw [if_pos (by omega)] at h2;exact ⟨_,⟨true,_,h5,by rw [h1];simp [e],rfl,h3⟩,fun h st=>h2▸st⟩
   ·rw [if_neg e] at h5;rw [if_neg (by omega)] at h2;exact ⟨_,⟨false,_,h5,by rw [h1];simp;omega,rfl,h3⟩,fun h st=>hh.star (h2▸st)⟩
 add_ok:=fun w n s R L F b o ha hn hl hh =>
  (add_lone (r:=((s w+n)%18446744073709551616:Nat)) (rd_wds hh hl.1 ha) (by rw [wrap_u64_mod];omega) (wt_wds A hh hl.1 ha (Nat.mod_lt _ (by decide)))).mono fun v L' x' ⟨h1,h2,h3⟩=>⟨_,_,Nat.mod_lt _ (by decide),hl.2,h1,h2,h3⟩
end
end Go.Proofs.Ytmkkanmkjfnpdaa
namespace Go.Proofs.Ytmkkanmkjfnpdaa
open Go Go.PB
attribute [local irreducible] Mo Bin Eql Tr Wo Ap Wle
section
theorem wds_congr {addr:Nat→Nat × Nat} {N:Nat} {K:List (Nat × Nat × Value)} {f f':Nat→Nat} (e:∀ i,i<N→f i=f' i):∀ h,wds addr N K f h→wds addr N K f' h:=fun h s =>
 ⟨fun w hw=>by rw [← e w hw];exact s.1 w hw,s.2⟩
structure WGm where
 σ:Type
 θ:Type
 ζ:Type
 wf:σ→Nat→Nat
 zf:σ→ζ
 Z:ζ→HProp
 plan:θ→Option ((Int × Int) × (σ→σ × θ))
 ok:σ→Prop
 Pv:θ→HProp
 up:∀ q h,Star [Pv q] h→Pv q h
def WGm.g (G:WGm) (addr:Nat→Nat × Nat) (N:Nat) (K:List (Nat × Nat × Value)):Game where
 σ:=G.σ
 θ:=G.θ
 U:=fun s=>all [wds addr N K (G.wf s),G.Z (G.zf s)]
 plan:=G.plan
 ok:=G.ok
 Pv:=G.Pv
 Fin:=G.Pv
end
section
structure PlS where
 f:Nat→Nat
 g:Nat→Nat
 t:Mach.Th
 n:Nat
abbrev wG (D:Wds) (addr:Nat→Nat × Nat) (N:Nat) (K:List (Nat × Nat × Value)) (Z:HProp) (Pv:Nat × Mach.Th→HProp):Game:=mG D (fun f=>all [wds addr N K f,Z]) Pv
section
variable {D:Wds} {addr:Nat→Nat × Nat} {N:Nat} {K:List (Nat × Nat × Value)} {Z:HProp} {Pv:Nat × Mach.Th→HProp} {sb says turn fin wg:Nat}
def plC (addr:Nat→Nat × Nat) (N:Nat) (K:List (Nat × Nat × Value)) (Z:HProp) (sb says turn fin:Nat) (Pm:HProp) (f:Nat→Nat):HProp:=all [wds addr N K f,Z,seatR sb says turn fin,Pm]
def PlStep (D:Wds) (N:Nat) (Pv:Nat × Mach.Th→HProp) (k:Nat) (Pm:HProp) (op:Int) (w:Nat) (s:PlS) (R:PlS→Prop):Prop :=
 s.t.over=false∧((s.t.mark.1:Nat):Int)=op∧s.t.mark.2=w∧(∀ i,i<N→s.f i=s.g i)∧(∀ h,Pm h→Pv (k,s.t) h)∧∀ f n,n<s.n→D.ok f→∃ y,Mach.opF D.fu (D.W f) s.t=some y∧R ⟨f,D.un y.1,y.2,n⟩
theorem pl_step {k:Nat} {Pm:HProp} (hPv:∀ q h,Star [Pv q] h→Pv q h) {op:Int} {w:Nat} {s:PlS} {R:PlS→Prop} {L F:List HProp} (hs:PlStep D N Pv k Pm op w s R) (hh:Has L (plC addr N K Z sb says turn fin Pm s.f) F) :
  Tr Try.prog tH 120 [.pointer (some ⟨sb,0,none⟩),.agg #[.int .u8 op,.int .i64 (w:Nat)]] L (tx (wG D addr N K Z Pv) says turn fin wg (.busy s.g ((k,s.t):Nat × Mach.Th) s.n)) fun v L' x' =>
   ∃ s',R s'∧v=.tuple #[]∧L'=plC addr N K Z sb says turn fin Pm s'.f::F∧x'=tx (wG D addr N K Z Pv) says turn fin wg (.busy s'.g ((k,s'.t):Nat × Mach.Th) s'.n):=by
 obtain ⟨ho,hop,hw,hfg,hpm,hR⟩:=hs
 have hp:(wG D addr N K Z Pv).plan ((k,s.t):Nat × Mach.Th)=some ((op,((w:Nat):Int)),mF D (k,s.t)):=by
  show mPlan D (k,s.t)=_
  unfold mPlan
  rw [if_neg (by rw [ho];decide)]
  unfold mkII
  rw [hop,hw]
 refine tr_star ((wG D addr N K Z Pv).U s.g::seatR sb says turn fin::Pm::F) (fun h st=>?_) ?_
 ·have s1:Star (wds addr N K s.f::Z::seatR sb says turn fin::Pm::F) h:=star_open (M:=[_,_,_,_]) (hh.star st)
  exact star_shut (M:=[_,_]) (star_map s1 (wds_congr hfg) fun _ z=>z)
 ·refine (seat_tr (g:=wG D addr N K Z Pv) (mk:=(op,(w:Nat))) hp .here .here fun h st=>hPv _ _ ?_).post ?_
  ·exact star_map (star_drop st) hpm fun _ z=>trivial
  ·rintro v L' x' ⟨m',(f':Nat→Nat),hm,hok,rfl,rfl,rfl⟩
   obtain ⟨y,hy,hR'⟩:=hR f' m' (by omega) hok
   refine ⟨_,⟨⟨f',D.un y.1,y.2,m'⟩,hR',rfl,rfl,?_⟩,fun h st=>?_⟩
   ·have e:mF D (k,s.t) f'=(D.un y.1,(k,y.2)):=by unfold mF;simp only [hy]
    show tx (wG D addr N K Z Pv) says turn fin wg (.busy (show (wG D addr N K Z Pv).σ from (mF D (k,s.t) f').1) (show (wG D addr N K Z Pv).θ from (mF D (k,s.t) f').2) m')=_
    rw [e]
   ·exact star_shut (M:=[_,_,_,_]) (star_open (M:=[_,_]) st)
def playAcc (D:Wds) (addr:Nat→Nat × Nat) (N:Nat) (K:List (Nat × Nat × Value)) (A:Apart addr N K) (Z:HProp) (Pv:Nat × Mach.Th→HProp) (hPv:∀ q h,Star [Pv q] h→Pv q h) (sb says turn fin wg k:Nat) (Pm:HProp):Acc tH (gateV sb) where
 S:=PlS
 C:=fun s=>plC addr N K Z sb says turn fin Pm s.f
 x:=fun s=>tx (wG D addr N K Z Pv) says turn fin wg (.busy s.g ((k,s.t):Nat × Mach.Th) s.n)
 step:=PlStep D N Pv k Pm
 addr:=addr
 load:=fun w s R=>w<N∧R (s.f w) s
 store:=fun w n s R=>w<N∧R { s with f:=upd s.f w n }
 cas:=fun w a n s R=>w<N∧if s.f w=a then R true { s with f:=upd s.f w n } else R false s
 add:=fun w n s R=>w<N∧R ((s.f w+n)%18446744073709551616) { s with f:=upd s.f w ((s.f w+n)%18446744073709551616) }
 swap:=fun w n s R=>w<N∧R (s.f w) { s with f:=upd s.f w n }
 gate:=.inr ⟨_,_,120,rfl,inferInstance,inferInstance,fun op w s R L F hs hh=>pl_step hPv hs hh⟩
 load_ok:=fun w s R L F b o ha hl hh=>tr_star _ (fun h st=>star_open (hh.star st)) (tr_pure (of_has .here fun h hc=>(hc.1 w hl.1).1) fun hs =>
  (load_lone (rd_wds .here hl.1 ha)).post fun v L' x' ⟨h1,h2,h3⟩=>⟨_,⟨s.f w,s,hs,hl.2,h1,rfl,h3⟩,fun h st=>star_shut (M:=[_,_,_,_]) (by rw [h2] at st;exact st)⟩)
 store_ok:=fun w n s R L F b o ha hn hl hh=>tr_star _ (fun h st=>star_open (hh.star st))
  ((store_lone (wt_wds A .here hl.1 ha hn)).post fun v L' x' ⟨h1,h2,h3⟩=>⟨_,⟨{ s with f:=upd s.f w n },hl.2,h1,rfl,h3⟩,fun h st=>star_shut (M:=[_,_,_,_]) (by rw [h2] at st;exact st)⟩)
 cas_ok:=fun w m n s R L F b o ha hn hl hh=>tr_star _ (fun h st=>star_open (hh.star st))
  ((cas_lone (rd_wds .here hl.1 ha) (wt_wds A .here hl.1 ha hn)).post fun v L' x' ⟨h1,h2,h3⟩=>by
   obtain ⟨h4,h5⟩:=hl
   by_cases e:s.f w=m
   ·rw [if_pos e] at h5;rw [if_pos (by omega)] at h2;exact ⟨_,⟨true,_,h5,by rw [h1];simp [e],rfl,h3⟩,fun h st=>star_shut (M:=[_,_,_,_]) (by rw [h2] at st;exact st)⟩
   ·rw [if_neg e] at h5;rw [if_neg (by omega)] at h2;exact ⟨_,⟨false,_,h5,by rw [h1];simp;omega,rfl,h3⟩,fun h st=>star_shut (M:=[_,_,_,_]) (by rw [h2] at st;exact st)⟩)
 add_ok:=fun w n s R L F b o ha hn hl hh=>tr_star _ (fun h st=>star_open (hh.star st))
  ((add_lone (r:=((s.f w+n)%18446744073709551616:Nat)) (rd_wds .here hl.1 ha) (by rw [wrap_u64_mod];omega) (wt_wds A .here hl.1 ha (Nat.mod_lt _ (by decide)))).post fun v L' x' ⟨h1,h2,h3⟩=>⟨_,⟨_,{ s with f:=_ },Nat.mod_lt _ (by decide),hl.2,h1,rfl,h3⟩,fun h st=>star_shut (M:=[_,_,_,_]) (by rw [h2] at st;exact st)⟩)
end
end
end Go.Proofs.Ytmkkanmkjfnpdaa
namespace Go.PB.Mach
section
def T (cs:List Cl) (c p:Nat) (r:Nat→Nat) (pre:List (Bool × List Nat)) (said:List Nat):Th:={ calls:=cs,call:=c,pc:=p,r:=r,ans:=pre++[(false,said)],over:=false }
def Bt (cs:List Cl) (c:Nat) (pre:List (Bool × List Nat)):Th:={ calls:=cs,call:=c,ans:=pre }
def Goes (k:Nat) (t t':Th):Prop:=∀ f,onF (f+k) t=onF f t'
theorem Goes.on {k f:Nat} {t t' t'':Th} (a:Goes k t t') (h:onF f t'=some t''):onF (f+k) t=some t'':=by rw [a,h]
theorem Goes.on1 {f:Nat} {t t' t'':Th} (a:Goes 1 t t') (h:onF f t'=some t''):onF (f+1) t=some t'':=a.on h
theorem onF_more:∀ {f:Nat} {t t':Th} {k:Nat},onF f t=some t'→onF (f+k) t=some t':=by
 intro f
 induction f with
 | zero=>intro t t' k h;cases h
 | succ f ih =>
  intro t t' k h
  rw [show f+1+k=(f+k)+1 by omega]
  unfold onF at h ⊢
  split at h
  ·rename_i h1;rw [if_pos h1];exact h
  rename_i h1;rw [if_neg h1]
  split at h
  ·rename_i h2;rw [if_pos h2];exact h
  rename_i h2;rw [if_neg h2]
  split at h
  ·rename_i h3;rw [if_pos h3];exact h
  rename_i h3;rw [if_neg h3]
  split at h
  ·rename_i h4;rw [if_pos h4];exact ih h
  ·rename_i h4;rw [if_neg h4];exact ih h
section
variable {cs:List Cl} {cl:Cl} {c p:Nat} {r:Nat→Nat} {pre:List (Bool × List Nat)} {said:List Nat} {x:In}
theorem T_begun (hp:pre.length=c):(T cs c p r pre said).begun=T cs c p r pre said:=by
 unfold Th.begun
 rw [if_neg]
 simp [T,hp]
theorem T_next (hc:cs[c]?=some cl) (h:cl.code[p]?=some x):(T cs c p r pre said).next=x:=by
 unfold Th.next Th.cl
 simp only [T,List.getD_eq_getElem?_getD,hc,Option.getD_some,h]
theorem T_next_none (hc:cs[c]?=some cl) (h:cl.code[p]?=none):(T cs c p r pre said).next=fin:=by
 unfold Th.next Th.cl
 simp only [T,List.getD_eq_getElem?_getD,hc,Option.getD_some,h,Option.getD_none]
theorem T_onF {f:Nat} (hc:cs[c]?=some cl) (hp:pre.length=c):onF (f+1) (T cs c p r pre said) =
  if told (T cs c p r pre said).next.op=true then some (T cs c p r pre said) else if (T cs c p r pre said).next.op=23 then onF f (T cs c p r pre said).done else onF f (own (T cs c p r pre said) (T cs c p r pre said).next):=by
 have hlt:c<cs.length:=(List.getElem?_eq_some_iff.1 hc).1
 rw [onF,if_neg (by simp [T]),if_neg (by simp only [T];omega),T_begun hp]
theorem goes_own {t':Th} (hc:cs[c]?=some cl) (hp:pre.length=c) (h:cl.code[p]?=some x) (h1:told x.op=false) (h2:x.op≠23) (ho:own (T cs c p r pre said) x=t'):Goes 1 (T cs c p r pre said) t':=fun f=>by
 rw [T_onF hc hp,T_next hc h,if_neg (by rw [h1];decide),if_neg h2,ho]
theorem on_stop {f:Nat} (hc:cs[c]?=some cl) (hp:pre.length=c) (h:cl.code[p]?=some x) (h1:told x.op=true):onF (f+1) (T cs c p r pre said)=some (T cs c p r pre said):=by
 rw [T_onF hc hp,T_next hc h,if_pos h1]
variable {on a b cc d n:Nat}
theorem goes_set (hc:cs[c]?=some cl) (hp:pre.length=c) (h:cl.code[p]?=some ⟨6,on,a,b,cc,d,n⟩):Goes 1 (T cs c p r pre said) (T cs c (p+1) (upd r a (n%18446744073709551616)) pre said):=goes_own hc hp h rfl (by simp) rfl
theorem goes_plus (hc:cs[c]?=some cl) (hp:pre.length=c) (h:cl.code[p]?=some ⟨8,on,a,b,cc,d,n⟩):Goes 1 (T cs c p r pre said) (T cs c (p+1) (upd r a ((r b+r cc+n)%18446744073709551616)) pre said):=goes_own hc hp h rfl (by simp) rfl
theorem goes_less (hc:cs[c]?=some cl) (hp:pre.length=c) (h:cl.code[p]?=some ⟨9,on,a,b,cc,d,n⟩):Goes 1 (T cs c p r pre said) (T cs c (p+1) (upd r a ((r b+18446744073709551616-r cc)%18446744073709551616)) pre said):=goes_own hc hp h rfl (by simp) rfl
theorem goes_and (hc:cs[c]?=some cl) (hp:pre.length=c) (h:cl.code[p]?=some ⟨12,on,a,b,cc,d,n⟩):Goes 1 (T cs c p r pre said) (T cs c (p+1) (upd r a ((r b &&& r cc)%18446744073709551616)) pre said):=goes_own hc hp h rfl (by simp) rfl
theorem goes_left (hc:cs[c]?=some cl) (hp:pre.length=c) (h:cl.code[p]?=some ⟨14,on,a,b,cc,d,n⟩):Goes 1 (T cs c p r pre said) (T cs c (p+1) (upd r a ((r b*2^n)%18446744073709551616)) pre said):=goes_own hc hp h rfl (by simp) rfl
theorem goes_jump (hc:cs[c]?=some cl) (hp:pre.length=c) (h:cl.code[p]?=some ⟨18,on,a,b,cc,d,n⟩):Goes 1 (T cs c p r pre said) (T cs c n r pre said):=goes_own hc hp h rfl (by simp) rfl
theorem goes_sameT (hc:cs[c]?=some cl) (hp:pre.length=c) (h:cl.code[p]?=some ⟨19,on,a,b,cc,d,n⟩) (e:r a=r b):Goes 1 (T cs c p r pre said) (T cs c n r pre said):=goes_own hc hp h rfl (by simp) (if_pos e)
theorem goes_sameF (hc:cs[c]?=some cl) (hp:pre.length=c) (h:cl.code[p]?=some ⟨19,on,a,b,cc,d,n⟩) (e:¬ r a=r b):Goes 1 (T cs c p r pre said) (T cs c (p+1) r pre said):=goes_own hc hp h rfl (by simp) (if_neg e)
theorem goes_minusT (hc:cs[c]?=some cl) (hp:pre.length=c) (h:cl.code[p]?=some ⟨21,on,a,b,cc,d,n⟩) (e:9223372036854775808≤r a):Goes 1 (T cs c p r pre said) (T cs c n r pre said):=goes_own hc hp h rfl (by simp) (if_pos e)
theorem goes_minusF (hc:cs[c]?=some cl) (hp:pre.length=c) (h:cl.code[p]?=some ⟨21,on,a,b,cc,d,n⟩) (e:¬ 9223372036854775808≤r a):Goes 1 (T cs c p r pre said) (T cs c (p+1) r pre said):=goes_own hc hp h rfl (by simp) (if_neg e)
theorem modify_last {l:List (Bool × List Nat)} {y:Bool × List Nat} {g:Bool × List Nat→Bool × List Nat} (h:l.length=c):(l++[y]).modify c g=l++[g y]:=by
 subst h
 induction l with
 | nil=>rfl
 | cons a l ih=>simp only [List.cons_append,List.length_cons,List.modify_succ_cons,ih]
theorem goes_tell (hc:cs[c]?=some cl) (hp:pre.length=c) (h:cl.code[p]?=some ⟨22,on,a,b,cc,d,n⟩):Goes 1 (T cs c p r pre said) (T cs c (p+1) r pre (said++[r a])):=goes_own hc hp h rfl (by simp) (by
 show Th.tell _ _=_
 unfold Th.tell T
 dsimp only
 rw [modify_last hp])
theorem done_T (hp:pre.length=c):(T cs c p r pre said).done=Bt cs (c+1) (pre++[(true,said)]):=by
 unfold Th.done T Bt
 dsimp only
 rw [modify_last hp]
theorem goes_end (hc:cs[c]?=some cl) (hp:pre.length=c) (h:cl.code[p]?=none):Goes 1 (T cs c p r pre said) (Bt cs (c+1) (pre++[(true,said)])):=fun f=>by
 rw [T_onF hc hp,T_next_none hc h,if_neg (show ¬ told fin.op=true by decide),if_pos (show fin.op=23 from rfl),done_T hp]
theorem on_begin {f:Nat} (hc:cs[c]?=some cl) (hp:pre.length=c):onF (f+1) (Bt cs c pre)=onF (f+1) (T cs c 0 (fun _=>0) pre []):=by
 have hlt:c<cs.length:=(List.getElem?_eq_some_iff.1 hc).1
 have hb:(Bt cs c pre).begun=T cs c 0 (fun _=>0) pre []:=by
  unfold Th.begun Bt
  rw [if_pos hp];rfl
 rw [T_onF hc hp,onF,if_neg (by simp [Bt]),if_neg (by simp only [Bt];omega),hb]
theorem on_over {f:Nat} (hc:cs[c]?=none):onF (f+1) (Bt cs c pre)=some { Bt cs c pre with over:=true }:=by
 rw [onF,if_neg (by simp [Bt]),if_pos]
 simpa [Bt] using hc
theorem opF_at {f:Nat} {w:Wd} {l:List Nat} {q:Nat} {t':Th} (hc:cs[c]?=some cl) (h:cl.code[p]?=some x) (hl:w.row x.on=l) (hq:(r x.b+x.n)%18446744073709551616=q) (hlt:q<l.length) (ho:onF f (T cs c (p+1) (op1 x l q r).2 pre said)=some t') :
  opF f w (T cs c p r pre said)=some ({ w with words:=w.words.set x.on (op1 x l q r).1 },t'):=by
 unfold opF
 have hn:=T_next (r:=r) (pre:=pre) (said:=said) hc h
 have hpl:(T cs c p r pre said).place=q:=by unfold Th.place;rw [hn];exact hq
 rw [hn,hpl,hl,if_pos hlt]
 dsimp only
 show (onF f (T cs c (p+1) (op1 x l q r).2 pre said)).map _=_
 rw [ho];rfl
theorem mark_at {q:Nat} (hc:cs[c]?=some cl) (h:cl.code[p]?=some x) (hq:(r x.b+x.n)%18446744073709551616=q):(T cs c p r pre said).mark=(x.op,q):=by
 have hn:=T_next (r:=r) (pre:=pre) (said:=said) hc h
 unfold Th.mark Th.place
 rw [hn]
 exact Prod.ext rfl hq
end
section
variable {cs:List Cl} {cl:Cl} {c p:Nat} {r:Nat→Nat} {pre:List (Bool × List Nat)} {said:List Nat} {x:In} {on a b cc d n vb vc v:Nat}
theorem st_set (hc:cs[c]?=some cl) (hp:pre.length=c) (h:cl.code[p]?=some ⟨6,on,a,b,cc,d,n⟩) (e:n%18446744073709551616=v):Goes 1 (T cs c p r pre said) (T cs c (p+1) (upd r a v) pre said):=by
 subst e;exact goes_set hc hp h
theorem st_plus (hc:cs[c]?=some cl) (hp:pre.length=c) (h:cl.code[p]?=some ⟨8,on,a,b,cc,d,n⟩) (e:(vb+vc+n)%18446744073709551616=v) (hb:r b=vb) (hcc:r cc=vc):Goes 1 (T cs c p r pre said) (T cs c (p+1) (upd r a v) pre said):=by
 subst hb;subst hcc;subst e;exact goes_plus hc hp h
theorem st_less (hc:cs[c]?=some cl) (hp:pre.length=c) (h:cl.code[p]?=some ⟨9,on,a,b,cc,d,n⟩) (e:(vb+18446744073709551616-vc)%18446744073709551616=v) (hb:r b=vb) (hcc:r cc=vc):Goes 1 (T cs c p r pre said) (T cs c (p+1) (upd r a v) pre said):=by
 subst hb;subst hcc;subst e;exact goes_less hc hp h
theorem st_and (hc:cs[c]?=some cl) (hp:pre.length=c) (h:cl.code[p]?=some ⟨12,on,a,b,cc,d,n⟩) (e:(vb &&& vc)%18446744073709551616=v) (hb:r b=vb) (hcc:r cc=vc):Goes 1 (T cs c p r pre said) (T cs c (p+1) (upd r a v) pre said):=by
 subst hb;subst hcc;subst e;exact goes_and hc hp h
theorem st_left (hc:cs[c]?=some cl) (hp:pre.length=c) (h:cl.code[p]?=some ⟨14,on,a,b,cc,d,n⟩) (e:(vb*2^n)%18446744073709551616=v) (hb:r b=vb):Goes 1 (T cs c p r pre said) (T cs c (p+1) (upd r a v) pre said):=by
 subst hb;subst e;exact goes_left hc hp h
theorem st_sameT (hc:cs[c]?=some cl) (hp:pre.length=c) (h:cl.code[p]?=some ⟨19,on,a,b,cc,d,n⟩) (e:vb=vc) (hb:r a=vb) (hcc:r b=vc):Goes 1 (T cs c p r pre said) (T cs c n r pre said):=goes_sameT hc hp h (by rw [hb,hcc,e])
theorem st_sameF (hc:cs[c]?=some cl) (hp:pre.length=c) (h:cl.code[p]?=some ⟨19,on,a,b,cc,d,n⟩) (e:¬ vb=vc) (hb:r a=vb) (hcc:r b=vc):Goes 1 (T cs c p r pre said) (T cs c (p+1) r pre said):=goes_sameF hc hp h (by rw [hb,hcc];exact e)
theorem st_minusT (hc:cs[c]?=some cl) (hp:pre.length=c) (h:cl.code[p]?=some ⟨21,on,a,b,cc,d,n⟩) (e:9223372036854775808≤vb) (hb:r a=vb):Goes 1 (T cs c p r pre said) (T cs c n r pre said):=goes_minusT hc hp h (by rw [hb];exact e)
theorem st_minusF (hc:cs[c]?=some cl) (hp:pre.length=c) (h:cl.code[p]?=some ⟨21,on,a,b,cc,d,n⟩) (e:¬ 9223372036854775808≤vb) (hb:r a=vb):Goes 1 (T cs c p r pre said) (T cs c (p+1) r pre said):=goes_minusF hc hp h (by rw [hb];exact e)
theorem st_tell (hc:cs[c]?=some cl) (hp:pre.length=c) (h:cl.code[p]?=some ⟨22,on,a,b,cc,d,n⟩) (hb:r a=vb):Goes 1 (T cs c p r pre said) (T cs c (p+1) r pre (said++[vb])):=by
 subst hb;exact goes_tell hc hp h
variable {f:Nat} {w:Wd} {l:List Nat} {q:Nat} {ws:List (List Nat)} {t':Th}
structure Op (f:Nat) (w:Wd) (t:Th) (m:Nat × Nat) (w':Wd) (t':Th):Prop where
 over:t.over=false
 on:opF f w t=some (w',t')
 mark:t.mark=m
theorem Op.of {w':Wd} (hc:cs[c]?=some cl) (h:cl.code[p]?=some x) (hq:(r x.b+x.n)%18446744073709551616=q) (ho:opF f w (T cs c p r pre said)=some (w',t')):Op f w (T cs c p r pre said) (x.op,q) w' t':=⟨rfl,ho,mark_at hc h hq⟩
theorem opr_load (hc:cs[c]?=some cl) (h:cl.code[p]?=some ⟨1,on,a,b,cc,d,n⟩) (hw:w.words[on]?=some l) (hb:r b=vb) (hq:(vb+n)%18446744073709551616=q) (hv:l[q]?=some v) (ho:onF f (T cs c (p+1) (upd r a v) pre said)=some t') :
  opF f w (T cs c p r pre said)=some (w,t'):=by
 have hr:w.row on=l:=by unfold Wd.row;rw [List.getD_eq_getElem?_getD,hw];rfl
 have hg:l.getD q 0=v:=by rw [List.getD_eq_getElem?_getD,hv];rfl
 subst hb
 have:=opF_at (f:=f) (t':=t') (pre:=pre) (said:=said) (r:=r) hc h hr hq (List.getElem?_eq_some_iff.1 hv).1 (by show onF f (T cs c (p+1) (upd r a (l.getD q 0)) pre said)=_;rw [hg];exact ho)
 rw [this]
 have e:w.words.set on l=w.words:=by
  apply List.ext_getElem?
  intro i
  rw [List.getElem?_set]
  split
  ·rename_i hi;subst hi;rw [if_pos (List.getElem?_eq_some_iff.1 hw).1,hw]
  ·rfl
 show some (({ w with words:=w.words.set on l }:Wd),t')=_
 rw [e]
theorem op_load (hc:cs[c]?=some cl) (h:cl.code[p]?=some ⟨1,on,a,b,cc,d,n⟩) (hw:w.words[on]?=some l) (hb:r b=vb) (hq:(vb+n)%18446744073709551616=q) (hv:l[q]?=some v) (ho:onF f (T cs c (p+1) (upd r a v) pre said)=some t'):Op f w (T cs c p r pre said) (1,q) (w) t':=Op.of hc h (by rw [← hb] at hq;exact hq) (opr_load hc h hw hb hq hv ho)
theorem opr_store (hc:cs[c]?=some cl) (h:cl.code[p]?=some ⟨2,on,a,b,cc,d,n⟩) (hw:w.words[on]?=some l) (hb:r b=vb) (hq:(vb+n)%18446744073709551616=q) (hv:r a=v) (hlt:q<l.length) (hws:w.words.set on (l.set q v)=ws) (ho:onF f (T cs c (p+1) r pre said)=some t') :
  opF f w (T cs c p r pre said)=some (⟨ws,w.nl⟩,t'):=by
 have hr:w.row on=l:=by unfold Wd.row;rw [List.getD_eq_getElem?_getD,hw];rfl
 subst hb;subst hv;subst hws
 exact opF_at (f:=f) (t':=t') hc h hr hq hlt ho
theorem op_store (hc:cs[c]?=some cl) (h:cl.code[p]?=some ⟨2,on,a,b,cc,d,n⟩) (hw:w.words[on]?=some l) (hb:r b=vb) (hq:(vb+n)%18446744073709551616=q) (hv:r a=v) (hlt:q<l.length) (hws:w.words.set on (l.set q v)=ws) (ho:onF f (T cs c (p+1) r pre said)=some t'):Op f w (T cs c p r pre said) (2,q) (⟨ws,w.nl⟩) t':=Op.of hc h (by rw [← hb] at hq;exact hq) (opr_store hc h hw hb hq hv hlt hws ho)
theorem opr_add {s:Nat} (hc:cs[c]?=some cl) (h:cl.code[p]?=some ⟨3,on,a,b,cc,d,n⟩) (hw:w.words[on]?=some l) (hb:r b=vb) (hq:(vb+n)%18446744073709551616=q) (hcc:r cc=vc) (hv:l[q]?=some v) (e:(v+vc)%18446744073709551616=s) (hws:w.words.set on (l.set q s)=ws) (ho:onF f (T cs c (p+1) (upd r a s) pre said)=some t') :
  opF f w (T cs c p r pre said)=some (⟨ws,w.nl⟩,t'):=by
 have hr:w.row on=l:=by unfold Wd.row;rw [List.getD_eq_getElem?_getD,hw];rfl
 have hg:l.getD q 0=v:=by rw [List.getD_eq_getElem?_getD,hv];rfl
 subst hb;subst hcc;subst hws;subst e
 have:=opF_at (f:=f) (t':=t') (pre:=pre) (said:=said) (r:=r) hc h hr hq (List.getElem?_eq_some_iff.1 hv).1 (by show onF f (T cs c (p+1) (upd r a ((l.getD q 0+r cc)%18446744073709551616)) pre said)=_;rw [hg];exact ho)
 rw [this]
 show some (({ w with words:=w.words.set on (l.set q ((l.getD q 0+r cc)%18446744073709551616)) }:Wd),t')=_
 rw [hg]
theorem op_add {s:Nat} (hc:cs[c]?=some cl) (h:cl.code[p]?=some ⟨3,on,a,b,cc,d,n⟩) (hw:w.words[on]?=some l) (hb:r b=vb) (hq:(vb+n)%18446744073709551616=q) (hcc:r cc=vc) (hv:l[q]?=some v) (e:(v+vc)%18446744073709551616=s) (hws:w.words.set on (l.set q s)=ws) (ho:onF f (T cs c (p+1) (upd r a s) pre said)=some t'):Op f w (T cs c p r pre said) (3,q) (⟨ws,w.nl⟩) t':=Op.of hc h (by rw [← hb] at hq;exact hq) (opr_add hc h hw hb hq hcc hv e hws ho)
theorem opr_casT {vd:Nat} (hc:cs[c]?=some cl) (h:cl.code[p]?=some ⟨5,on,a,b,cc,d,n⟩) (hw:w.words[on]?=some l) (hb:r b=vb) (hq:(vb+n)%18446744073709551616=q) (hcc:r cc=v) (hd:r d=vd) (hv:l[q]?=some v) (hws:w.words.set on (l.set q vd)=ws) (ho:onF f (T cs c (p+1) (upd r a 1) pre said)=some t') :
  opF f w (T cs c p r pre said)=some (⟨ws,w.nl⟩,t'):=by
 have hr:w.row on=l:=by unfold Wd.row;rw [List.getD_eq_getElem?_getD,hw];rfl
 have hg:l.getD q 0=v:=by rw [List.getD_eq_getElem?_getD,hv];rfl
 have hop:op1 ⟨5,on,a,b,cc,d,n⟩ l q r=(l.set q vd,upd r a 1):=by
  show (if l.getD q 0=r cc then (l.set q (r d),upd r a 1) else (l,upd r a 0))=_
  rw [if_pos (by rw [hg,hcc]),hd]
 subst hb;subst hws
 rw [opF_at (f:=f) (t':=t') (pre:=pre) (said:=said) (r:=r) hc h hr hq (List.getElem?_eq_some_iff.1 hv).1 (by rw [hop];exact ho),hop]
theorem op_casT {vd:Nat} (hc:cs[c]?=some cl) (h:cl.code[p]?=some ⟨5,on,a,b,cc,d,n⟩) (hw:w.words[on]?=some l) (hb:r b=vb) (hq:(vb+n)%18446744073709551616=q) (hcc:r cc=v) (hd:r d=vd) (hv:l[q]?=some v) (hws:w.words.set on (l.set q vd)=ws) (ho:onF f (T cs c (p+1) (upd r a 1) pre said)=some t'):Op f w (T cs c p r pre said) (5,q) (⟨ws,w.nl⟩) t':=Op.of hc h (by rw [← hb] at hq;exact hq) (opr_casT hc h hw hb hq hcc hd hv hws ho)
theorem opr_casF (hc:cs[c]?=some cl) (h:cl.code[p]?=some ⟨5,on,a,b,cc,d,n⟩) (hw:w.words[on]?=some l) (hb:r b=vb) (hq:(vb+n)%18446744073709551616=q) (hcc:r cc=vc) (hv:l[q]?=some v) (hne:¬ v=vc) (ho:onF f (T cs c (p+1) (upd r a 0) pre said)=some t') :
  opF f w (T cs c p r pre said)=some (w,t'):=by
 have hr:w.row on=l:=by unfold Wd.row;rw [List.getD_eq_getElem?_getD,hw];rfl
 have hg:l.getD q 0=v:=by rw [List.getD_eq_getElem?_getD,hv];rfl
 have hop:op1 ⟨5,on,a,b,cc,d,n⟩ l q r=(l,upd r a 0):=by
  show (if l.getD q 0=r cc then (l.set q (r d),upd r a 1) else (l,upd r a 0))=_
  rw [if_neg (by rw [hg,hcc];exact hne)]
 subst hb
 have e:w.words.set on l=w.words:=by
  apply List.ext_getElem?
  intro i
  rw [List.getElem?_set]
  split
  ·rename_i hi;subst hi;rw [if_pos (List.getElem?_eq_some_iff.1 hw).1,hw]
  ·rfl
 rw [opF_at (f:=f) (t':=t') (pre:=pre) (said:=said) (r:=r) hc h hr hq (List.getElem?_eq_some_iff.1 hv).1 (by rw [hop];exact ho),hop]
 show some (({ w with words:=w.words.set on l }:Wd),t')=_
 rw [e]
theorem op_casF (hc:cs[c]?=some cl) (h:cl.code[p]?=some ⟨5,on,a,b,cc,d,n⟩) (hw:w.words[on]?=some l) (hb:r b=vb) (hq:(vb+n)%18446744073709551616=q) (hcc:r cc=vc) (hv:l[q]?=some v) (hne:¬ v=vc) (ho:onF f (T cs c (p+1) (upd r a 0) pre said)=some t'):Op f w (T cs c p r pre said) (5,q) (w) t':=Op.of hc h (by rw [← hb] at hq;exact hq) (opr_casF hc h hw hb hq hcc hv hne ho)
end
inductive Runs (f:Nat):Wd→Th→List (Nat × Nat)→Wd→Th→Prop
 | nil {w:Wd} {t:Th}:Runs f w t [] w t
 | cons {w w1 w2:Wd} {t t1 t2:Th} {m:Nat × Nat} {ms:List (Nat × Nat)}:Op f w t m w1 t1→Runs f w1 t1 ms w2 t2→Runs f w t (m::ms) w2 t2
end
end Go.PB.Mach
namespace Go.Proofs.Ytmkkanmkjfnpdaa
open Go Go.PB
attribute [local irreducible] Mo Bin Eql Tr Wo
section
variable {B:Hand} [Lets B] {L:List HProp} {x:B.X}
theorem tmod_emod {n k:Int} (hk:0<k):(n.tmod k<0→n.tmod k+k=n%k)∧(¬ n.tmod k<0→n.tmod k=n%k):=by
 have h1:=Int.emod_nonneg n (by omega:k≠0)
 have h2:=Int.emod_lt_of_pos n hk
 have h3:n.tmod k=n%k-((if 0≤n∨k ∣ n then 0 else k.natAbs:Nat):Int):=Int.tmod_eq_emod
 have h4:=Int.tmod_lt_of_pos n hk
 split at h3
 ·constructor <;> intro h5 <;> omega
 ·rename_i hn
  have h6:n%k≠0:=fun h=>hn (.inr (Int.dvd_of_emod_eq_zero h))
  constructor <;> intro h5 <;> omega
theorem within_tr {n k:Int} (hn:-9223372036854775808≤n∧n≤9223372036854775807) (hk:0<k∧k≤1000000) :
  Tr Try.prog B 37 [.int .i64 n,.int .i64 k] L x fun v L' x'=>v=.int .i64 (n%k)∧L'=L∧x'=x:=by
 have ht:=tmod_emod (n:=n) hk.1
 have h1:=Int.emod_nonneg n (by omega:k≠0)
 have h2:=Int.emod_lt_of_pos n hk.1
 have hlt:=Int.tmod_lt_of_pos n hk.1
 obtain ⟨m,hm⟩:∃ m,n%k=m:=⟨_,rfl⟩
 obtain ⟨t,hte⟩:∃ t,n.tmod k=t:=⟨_,rfl⟩
 rw [hm] at ht h1 h2
 rw [hte] at ht hlt
 rw [hm]
 by_cases hneg:t<0
 ·have e:=ht.1 hneg
  refine tr_of_body Try.func37 rfl Try.ntmps37 (by simp) fun um Q _ hQ=>?_
  simp only [argE,Nat.zero_add,Nat.reduceAdd]
  repeat (first | (apply wo_po;apply mo_bin;exact rfl;exact rfl;apply bin_rem;omega;exact hte;exact trivial) | refine wlssT ?_ | refine we_seq ?_ | (refine wR ?_;try simp only [oS]) | refine wo_nil ?_ | refine wM ?_ | refine wA ?_ | refine wadd ?_ | refine wT ?_ | refine we_ret ?_)
  (first | refine or1 Try.func37 Try.results37 hQ rfl ?_ | refine on1 Try.func37 Try.results37 hQ rfl ?_)
  exact ⟨by rw [e],rfl,rfl⟩
 ·have e:=ht.2 hneg
  refine tr_of_body Try.func37 rfl Try.ntmps37 (by simp) fun um Q _ hQ=>?_
  simp only [argE,Nat.zero_add,Nat.reduceAdd]
  repeat (first | (apply wo_po;apply mo_bin;exact rfl;exact rfl;apply bin_rem;omega;exact hte;exact trivial) | refine wlssF ?_ | refine we_seq ?_ | (refine wR ?_;try simp only [oS]) | refine wo_nil ?_ | refine wM ?_ | refine wA ?_ | refine wF ?_ | refine we_ret ?_ | refine we_skip ?_)
  (first | refine or1 Try.func37 Try.results37 hQ rfl ?_ | refine on1 Try.func37 Try.results37 hQ rfl ?_)
  exact ⟨by rw [e],rfl,rfl⟩
def sameInv (x:B.X) (L:List HProp) (a a':Option Addr) (n c c':Nat) (l l':List Nat):Inv Nat B.X where
 e:=fun i=>[(0,.slice a n c),(1,.slice a' n c'),(5,.int .i64 i)]
 L:=fun _=>L
 x:=fun _=>x
 ok:=fun i=>i≤n∧l.take i=l'.take i
theorem same_words_tr {a a':Option Addr} {n n' c c':Nat} {l l':List Nat} (hn:n=l.length) (hn':n'=l'.length) (hl:n<1000000000000000) (h1:RdV L a l) (h2:RdV L a' l') :
  Tr Try.prog B 16 [.slice a n c,.slice a' n' c'] L x fun v L' x'=>v=.bool (decide (l=l'))∧L'=L∧x'=x:=by
 by_cases hlen:n=n'
 ·subst hlen
  refine tr_of_body Try.func16 rfl Try.ntmps16 (by simp) fun um Q _ hQ=>?_
  simp only [argE,Nat.zero_add,Nat.reduceAdd]
  repeat (first | refine wneqF ?_ | refine we_seq ?_ | (refine wR ?_;try simp only [oS]) | refine wo_nil ?_ | refine wM ?_ | refine wA ?_ | refine wE ?_ | refine wF ?_ | refine we_skip ?_ | refine we_block ?_)
  refine we_loopN (sameInv x L a a' n c c' l l') (fun i=>n-i) 0 ⟨by omega,by simp⟩ ⟨rfl,rfl,rfl,trivial⟩ .refl rfl ?_
  rintro i ⟨hi,ht⟩
  dsimp only [sameInv] at hi ht ⊢
  by_cases hc:i<n
  ·obtain ⟨v,hv⟩:∃ v,l[i]?=some v:=⟨l[i]'(by omega),by simp⟩
   obtain ⟨v',hv'⟩:∃ v,l'[i]?=some v:=⟨l'[i]'(by omega),by simp⟩
   obtain ⟨b1,o1,rfl,r1⟩:=h1 i v hv
   obtain ⟨b2,o2,rfl,r2⟩:=h2 i v' hv'
   by_cases he:v=v'
   ·have he':(v:Int)=v':=by omega
    repeat (first | refine wlssT ?_ | refine we_seq ?_ | (refine wR ?_;try simp only [oS]) | refine wo_nil ?_ | refine wM ?_ | refine wE ?_ | refine wT ?_ | refine we_skip ?_ | refine we_block ?_)
    refine we_draw [0,1,2,3,4,5,6,7,8] (by kernel_rfl) ?_
    repeat (first | (apply ap_pure;exact rfl;exact rfl;exact trivial;intro L;apply mo_indexAddr (r:=o1+i);exact rfl;exact rfl;omega;omega;omega) | (apply ap_pure;exact rfl;exact rfl;exact trivial;intro L;apply mo_indexAddr (r:=o2+i);exact rfl;exact rfl;omega;omega;omega) | (apply ap_read;exact rfl;exact rfl;exact trivial;apply mo_load;exact rfl;exact r1) | (apply ap_read;exact rfl;exact rfl;exact trivial;apply mo_load;exact rfl;exact r2) | (apply ap_pure;exact rfl;exact rfl;exact trivial;intro L;apply mo_bin;exact rfl;exact rfl;apply bin_neqF;omega) | refine aM ?_ | refine ap_end ?_)
    repeat (first | (refine wR ?_;try simp only [oS]) | refine wo_nil ?_ | refine wM ?_ | refine wA ?_ | refine wadd ?_ | refine wF ?_ | refine we_skip ?_)
    refine at_round (I:=sameInv x L _ _ n c c' l l') (R:=fun i'=>n-i'<n-i) (i+1) (by omega) ⟨by omega,?_⟩ ⟨rfl,rfl,rfl,trivial⟩ .refl rfl
    rw [List.take_add_one,List.take_add_one,ht,hv,hv',he]
   ·have he':¬ (v:Int)=v':=by omega
    repeat (first | refine wlssT ?_ | refine we_seq ?_ | (refine wR ?_;try simp only [oS]) | refine wo_nil ?_ | refine wM ?_ | refine wE ?_ | refine wT ?_ | refine we_skip ?_ | refine we_block ?_)
    refine we_draw [0,1,2,3,4,5,6,7,8] (by kernel_rfl) ?_
    repeat (first | (apply ap_pure;exact rfl;exact rfl;exact trivial;intro L;apply mo_indexAddr (r:=o1+i);exact rfl;exact rfl;omega;omega;omega) | (apply ap_pure;exact rfl;exact rfl;exact trivial;intro L;apply mo_indexAddr (r:=o2+i);exact rfl;exact rfl;omega;omega;omega) | (apply ap_read;exact rfl;exact rfl;exact trivial;apply mo_load;exact rfl;exact r1) | (apply ap_read;exact rfl;exact rfl;exact trivial;apply mo_load;exact rfl;exact r2) | (apply ap_pure;exact rfl;exact rfl;exact trivial;intro L;apply mo_bin;exact rfl;exact rfl;apply bin_neqT;omega) | refine aM ?_ | refine ap_end ?_)
    repeat (first | refine we_seq ?_ | (refine wR ?_;try simp only [oS]) | refine wo_nil ?_ | refine wA ?_ | refine wT ?_ | refine we_ret ?_)
    (first | refine or1 Try.func16 Try.results16 hQ rfl ?_ | refine on1 Try.func16 Try.results16 hQ rfl ?_)
    have:l≠l':=fun h=>he (by rw [h,hv'] at hv;cases hv;rfl)
    exact ⟨by rw [decide_eq_false this],rfl,rfl⟩
  ·repeat (first | refine wlssF ?_ | refine we_seq ?_ | (refine wR ?_;try simp only [oS]) | refine wo_nil ?_ | refine wM ?_ | refine wA ?_ | refine wE ?_ | refine wF ?_ | refine we_ret ?_ | refine we_exit ?_)
   (first | refine or1 Try.func16 Try.results16 hQ rfl ?_ | refine on1 Try.func16 Try.results16 hQ rfl ?_)
   have:l=l':=by
    rw [List.take_of_length_le (by omega),List.take_of_length_le (by omega)] at ht
    exact ht
   exact ⟨by rw [decide_eq_true this],rfl,rfl⟩
 ·have hne:¬ (n:Int)=n':=by omega
  refine tr_of_body Try.func16 rfl Try.ntmps16 (by simp) fun um Q _ hQ=>?_
  simp only [argE,Nat.zero_add,Nat.reduceAdd]
  repeat (first | refine wneqT ?_ | refine we_seq ?_ | (refine wR ?_;try simp only [oS]) | refine wo_nil ?_ | refine wM ?_ | refine wA ?_ | refine wE ?_ | refine wT ?_ | refine we_ret ?_)
  (first | refine or1 Try.func16 Try.results16 hQ rfl ?_ | refine on1 Try.func16 Try.results16 hQ rfl ?_)
  have:l≠l':=fun h=>hlen (by rw [hn,hn',h])
  exact ⟨by rw [decide_eq_false this],rfl,rfl⟩
end
end Go.Proofs.Ytmkkanmkjfnpdaa
namespace Go.Proofs.Ytmkkanmkjfnpdaa
open Go Go.PB
attribute [local irreducible] Mo Bin Eql Tr Wo Ap
section
variable {B:Hand} [Lets B] {L F:List HProp} {x:B.X}
theorem told_tr {n:Nat} (hn:n≤30):Tr Try.prog B 91 [.int .i64 n] L x fun v L' x'=>v=.bool (Mach.told n)∧L'=L∧x'=x:=by
 by_cases h1:1≤n
 ·by_cases h2:n≤5
  ·refine tr_of_body Try.func91 rfl Try.ntmps91 (by simp) fun um Q _ hQ=>?_
   simp only [argE,Nat.zero_add,Nat.reduceAdd]
   repeat (first | refine wleqT ?_ | refine wgeqT ?_ | refine we_seq ?_ | (refine wR ?_;try simp only [oS]) | refine wo_nil ?_ | refine wM ?_ | refine wA ?_ | refine wK ?_ | refine we_ret ?_)
   (first | refine or1 Try.func91 Try.results91 hQ rfl ?_ | refine on1 Try.func91 Try.results91 hQ rfl ?_)
   exact ⟨by simp [Mach.told,h1,h2],rfl,rfl⟩
  ·refine tr_of_body Try.func91 rfl Try.ntmps91 (by simp) fun um Q _ hQ=>?_
   simp only [argE,Nat.zero_add,Nat.reduceAdd]
   repeat (first | refine wleqF ?_ | refine wgeqT ?_ | refine we_seq ?_ | (refine wR ?_;try simp only [oS]) | refine wo_nil ?_ | refine wM ?_ | refine wA ?_ | refine wK ?_ | refine we_ret ?_)
   (first | refine or1 Try.func91 Try.results91 hQ rfl ?_ | refine on1 Try.func91 Try.results91 hQ rfl ?_)
   exact ⟨by simp [Mach.told,h1,h2],rfl,rfl⟩
 ·refine tr_of_body Try.func91 rfl Try.ntmps91 (by simp) fun um Q _ hQ=>?_
  simp only [argE,Nat.zero_add,Nat.reduceAdd]
  repeat (first | refine wgeqF ?_ | refine we_seq ?_ | (refine wR ?_;try simp only [oS]) | refine wo_nil ?_ | refine wM ?_ | refine wA ?_ | (apply wo_no;exact rfl) | refine wJ ?_ | refine we_ret ?_)
  (first | refine or1 Try.func91 Try.results91 hQ rfl ?_ | refine on1 Try.func91 Try.results91 hQ rfl ?_)
  exact ⟨by simp [Mach.told,h1],rfl,rfl⟩
theorem kind_tr {n:Nat} (hn:1≤n∧n≤5):Tr Try.prog B 93 [.int .i64 n] L x fun v L' x'=>v=.int .u8 n∧L'=L∧x'=x:=by
 have:n=1∨n=2∨n=3∨n=4∨n=5:=by omega
 rcases this with rfl | rfl | rfl | rfl | rfl
 ·refine tr_of_body Try.func93 rfl Try.ntmps93 (by simp) fun um Q _ hQ=>?_
  simp only [argE,Nat.zero_add,Nat.reduceAdd]
  repeat (first | refine weqlT ?_ | refine we_seq ?_ | (refine wR ?_;try simp only [oS]) | refine wo_nil ?_ | refine wM ?_ | refine wA ?_ | refine wT ?_ | refine we_ret ?_ | refine we_block ?_)
  (first | refine or1 Try.func93 Try.results93 hQ rfl ?_ | refine on1 Try.func93 Try.results93 hQ rfl ?_)
  exact ⟨rfl,rfl,rfl⟩
 ·refine tr_of_body Try.func93 rfl Try.ntmps93 (by simp) fun um Q _ hQ=>?_
  simp only [argE,Nat.zero_add,Nat.reduceAdd]
  repeat (first | refine weqlT ?_ | refine weqlF ?_ | refine we_seq ?_ | (refine wR ?_;try simp only [oS]) | refine wo_nil ?_ | refine wM ?_ | refine wA ?_ | refine wT ?_ | refine wF ?_ | refine we_ret ?_ | refine we_block ?_)
  (first | refine or1 Try.func93 Try.results93 hQ rfl ?_ | refine on1 Try.func93 Try.results93 hQ rfl ?_)
  exact ⟨rfl,rfl,rfl⟩
 ·refine tr_of_body Try.func93 rfl Try.ntmps93 (by simp) fun um Q _ hQ=>?_
  simp only [argE,Nat.zero_add,Nat.reduceAdd]
  repeat (first | refine weqlT ?_ | refine weqlF ?_ | refine we_seq ?_ | (refine wR ?_;try simp only [oS]) | refine wo_nil ?_ | refine wM ?_ | refine wA ?_ | refine wT ?_ | refine wF ?_ | refine we_ret ?_ | refine we_block ?_)
  (first | refine or1 Try.func93 Try.results93 hQ rfl ?_ | refine on1 Try.func93 Try.results93 hQ rfl ?_)
  exact ⟨rfl,rfl,rfl⟩
 ·refine tr_of_body Try.func93 rfl Try.ntmps93 (by simp) fun um Q _ hQ=>?_
  simp only [argE,Nat.zero_add,Nat.reduceAdd]
  repeat (first | refine weqlT ?_ | refine weqlF ?_ | refine we_seq ?_ | (refine wR ?_;try simp only [oS]) | refine wo_nil ?_ | refine wM ?_ | refine wA ?_ | refine wT ?_ | refine wF ?_ | refine we_ret ?_ | refine we_block ?_)
  (first | refine or1 Try.func93 Try.results93 hQ rfl ?_ | refine on1 Try.func93 Try.results93 hQ rfl ?_)
  exact ⟨rfl,rfl,rfl⟩
 ·refine tr_of_body Try.func93 rfl Try.ntmps93 (by simp) fun um Q _ hQ=>?_
  simp only [argE,Nat.zero_add,Nat.reduceAdd]
  repeat (first | refine weqlF ?_ | refine we_seq ?_ | (refine wR ?_;try simp only [oS]) | refine wo_nil ?_ | refine wM ?_ | refine wA ?_ | refine wF ?_ | refine we_ret ?_ | refine we_skip ?_ | refine we_block ?_)
  (first | refine or1 Try.func93 Try.results93 hQ rfl ?_ | refine on1 Try.func93 Try.results93 hQ rfl ?_)
  exact ⟨rfl,rfl,rfl⟩
end
section
variable {B:Hand} [Lets B] {L F:List HProp} {x:B.X}
def inC (x:Mach.In):List Value:=[.int .i64 (x.op:Nat),.int .i64 (x.on:Nat),.int .i64 (x.a:Nat),.int .i64 (x.b:Nat),.int .i64 (x.c:Nat),.int .i64 (x.d:Nat),.int .u64 (x.n:Nat)]
theorem next_tr {tb cb co ncalls ccap call pc kc:Nat} {kp:Option Addr} {code:List Mach.In} (r0:Rd L tb 0 (.slice (some ⟨cb,co,none⟩) ncalls ccap)) (r1:Rd L tb 1 (.int .i64 call)) (r2:Rd L tb 2 (.int .i64 pc)) (hcall:call<ncalls)
  (rc:Rd L cb (co+2*call) (.slice kp code.length kc)) (rk:∀ y,code[pc]?=some y→∃ kb ko,kp=some ⟨kb,ko,none⟩∧Rds L kb (ko+7*pc) (inC y)) :
  Tr Try.prog B 90 [.pointer (some ⟨tb,0,none⟩)] L x fun v L' x'=>v=.agg (inC (code.getD pc Mach.fin)).toArray∧L'=L∧x'=x:=by
 refine Tr.post (R:=fun v L' x'=>∃ c,v=.agg (inC (code.getD pc Mach.fin)).toArray∧L'=c::L∧x'=x) ?_ (by rintro v L' x' ⟨c,rfl,rfl,rfl⟩;exact ⟨L,⟨rfl,rfl,rfl⟩,fun h s=>star_drop s⟩)
 by_cases hc:pc<code.length
 ·obtain ⟨y,hy⟩:∃ y,code[pc]?=some y:=⟨code[pc]'hc,by simp [hc]⟩
  obtain ⟨kb,ko,rfl,hr⟩:=rk y hy
  refine tr_of_body Try.func90 rfl Try.ntmps90 (by simp) fun um Q _ hQ=>?_
  simp only [argE,Nat.zero_add,Nat.reduceAdd]
  repeat (first | (apply wo_mo;apply mo_alloc;exact trivial) | refine we_seq ?_ | (refine wR ?_;try simp only [oS]))
  rintro v' L' ⟨rb,rfl,rfl⟩
  repeat (first | refine we_seq ?_ | refine wo_nil ?_)
  refine we_draw [0,1,2,3,4,5,6,7,8,9,10,11] (by kernel_rfl) ?_
  repeat (first | (apply ap_read;exact rfl;exact rfl;exact trivial;apply mo_load;exact rfl;exact Rd.there r0) | (apply ap_read;exact rfl;exact rfl;exact trivial;apply mo_load;exact rfl;exact Rd.there r1) | (apply ap_read;exact rfl;exact rfl;exact trivial;apply mo_load;exact rfl;exact Rd.there rc) | (apply ap_pure;exact rfl;exact rfl;exact trivial;intro L;apply mo_indexAddr (r:=co+2*call);exact rfl;exact rfl;omega;omega;omega) | refine aM ?_ | refine aA ?_ | refine aN ?_ | refine aD ?_ | refine ap_end ?_)
  repeat (first | (apply wo_po;apply mo_load;exact rfl;exact Rd.there r2;exact gY) | (apply wo_po;apply mo_indexAddr (r:=ko+7*pc);exact rfl;exact rfl;omega;omega;omega;exact trivial) | (apply wo_po;apply mo_loadA (vs:=inC y);exact rfl;exact rfl;exact fun i v hi=>Rd.there (hr i v hi);exact trivial) | refine wlssF ?_ | refine wgeqF ?_ | refine we_seq ?_ | (refine wR ?_;try simp only [oS]) | refine wo_nil ?_ | refine wM ?_ | refine wJ ?_ | refine wN ?_ | refine wD ?_ | refine wE ?_ | refine wF ?_ | refine we_skip ?_)
  repeat (first | (apply wo_pm;apply mo_storeA (c:=0) (k:=0) (a:=0) (vs:=inC { op:=0 }) (v:=.agg (inC y).toArray);exact rfl;exact rfl;exact rfl;(intro w hw;simp [Value.cells,inC] at hw;rcases hw with rfl | rfl | rfl | rfl | rfl | rfl | rfl <;> rfl);exact rfl;exact Nat.le_refl 7;exact .here;exact trivial) | refine wo_nil ?_ | refine we_ret ?_)
  refine at_leaveM (rs:=[.cell 2 161]) Try.func90 Try.results90 hQ (.inl rfl) (.cons (.cell (vs:=inC y) rfl rfl (Rds.all .here)) .nil) ?_
  exact ⟨_,by simp [packR,hy],rfl,rfl⟩
 ·refine tr_of_body Try.func90 rfl Try.ntmps90 (by simp) fun um Q _ hQ=>?_
  simp only [argE,Nat.zero_add,Nat.reduceAdd]
  repeat (first | (apply wo_mo;apply mo_alloc;exact trivial) | refine we_seq ?_ | (refine wR ?_;try simp only [oS]))
  rintro v' L' ⟨rb,rfl,rfl⟩
  repeat (first | refine we_seq ?_ | refine wo_nil ?_)
  refine we_draw [0,1,2,3,4,5,6,7,8,9,10,11] (by kernel_rfl) ?_
  repeat (first | (apply ap_read;exact rfl;exact rfl;exact trivial;apply mo_load;exact rfl;exact Rd.there r0) | (apply ap_read;exact rfl;exact rfl;exact trivial;apply mo_load;exact rfl;exact Rd.there r1) | (apply ap_read;exact rfl;exact rfl;exact trivial;apply mo_load;exact rfl;exact Rd.there rc) | (apply ap_pure;exact rfl;exact rfl;exact trivial;intro L;apply mo_indexAddr (r:=co+2*call);exact rfl;exact rfl;omega;omega;omega) | refine aM ?_ | refine aA ?_ | refine aN ?_ | refine aD ?_ | refine ap_end ?_)
  repeat (first | (apply wo_po;apply mo_load;exact rfl;exact Rd.there r2;exact gY) | refine wlssF ?_ | refine wgeqT ?_ | refine we_seq ?_ | (refine wR ?_;try simp only [oS]) | refine wo_nil ?_ | refine wM ?_ | refine wJ ?_ | refine wN ?_ | refine wD ?_ | refine wE ?_ | refine wT ?_)
  repeat (first | (apply wo_po;apply mo_build (pv:=[(0,_)]);exact rfl;exact .cons rfl .nil;exact rfl;exact trivial) | (apply wo_pm;apply mo_storeA (c:=0) (k:=0) (a:=0) (vs:=inC { op:=0 }) (v:=.agg (inC Mach.fin).toArray);exact rfl;exact rfl;exact rfl;(intro w hw;simp [Value.cells,inC] at hw;rcases hw with rfl | rfl | rfl | rfl | rfl | rfl | rfl <;> rfl);exact rfl;exact Nat.le_refl 7;exact .here;exact trivial) | refine wo_nil ?_ | refine we_ret ?_)
  refine at_leaveM (rs:=[.cell 2 161]) Try.func90 Try.results90 hQ (.inl rfl) (.cons (.cell (vs:=inC Mach.fin) rfl rfl (Rds.all .here)) .nil) ?_
  exact ⟨_,by simp [packR,hc],rfl,rfl⟩
end
end Go.Proofs.Ytmkkanmkjfnpdaa
