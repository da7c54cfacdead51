/-
  Part 4 of 6.
-/
import Derived.Test.YtaeegnfbofagcaaTk3
import Derived.Test.YtaeegnfbofagcaaTk2
import Derived.Lib.Mul64
import Derived.Laws.Externs
set_option linter.unusedVariables false
set_option linter.unusedSimpArgs false
namespace Go.PB
theorem zip_set {α β γ:Type} {f:α→β→γ} {b:β}:∀ {k:Nat} {xs:List α} {ys:List β} {a:α},xs[k]?=some a→List.zipWith f xs (ys.set k b)=(List.zipWith f xs ys).set k (f a b)
 | _,[],_,_,h=>by simp at h
 | _,x::xs,[],_,_=>rfl
 | 0,x::xs,y::ys,a,h=>by simp at h;subst h;rfl
 | k+1,x::xs,y::ys,a,h=>by simp only [List.set_cons_succ,List.zipWith_cons_cons];rw [zip_set (by simpa using h)]
theorem set_same {α:Type} {l:List α} {k:Nat} {a:α} (h:l[k]?=some a):l.set k a=l:=by
 obtain ⟨h1,h2⟩:=List.getElem?_eq_some_iff.1 h
 subst h2
 exact List.set_getElem_self h1
end Go.PB
namespace Go.Proofs.Ytaeegnfbofagcaa
open Go Go.PB
attribute [local irreducible] Mo Bin Eql Tr Wo Ap Wle
structure PS (g:Game) where
 s:g.σ
 qs:List g.θ
 tr:List (Nat × (Int × Int))
def takeF {g:Game} (p:PS g) (k:Int):PS g × Bool :=
 if k<0 then (p,false) else
 match p.qs[k.toNat]? with
 | none=>(p,false)
 | some q=>match g.plan q with
  | none=>(p,false)
  | some (m,f)=>if p.tr.length=16384 then (p,false) else (⟨(f p.s).1,p.qs.set k.toNat (f p.s).2,p.tr++[(k.toNat,m)]⟩,true)
structure SId where
 sb:Nat
 says:Nat
 turn:Nat
 fin:Nat
def trCP (tr:List (Nat × (Int × Int))):List Value:=(tr.map fun t=>[.int .i64 (t.1:Nat),.int .u8 t.2.1,.int .i64 t.2.2]).flatten
theorem trCP_len {tr:List (Nat × (Int × Int))}:(trCP tr).length=tr.length*3:=flat_len (f:=fun t:Nat × (Int × Int)=>[Value.int .i64 (t.1:Nat),.int .u8 t.2.1,.int .i64 t.2.2]) (k:=3) (fun _=>rfl) tr
theorem trCP_app {tr:List (Nat × (Int × Int))} {k:Nat} {m:Int × Int}:trCP (tr++[(k,m)])=trCP tr++[.int .i64 (k:Nat),.int .u8 m.1,.int .i64 m.2]:=by simp [trCP]
def ptrs (ids:List SId):List Value:=ids.map fun i=>.pointer (some ⟨i.sb,0,none⟩)
abbrev lastQ (g:Game) (q:g.θ):List Value:=lastC ((g.plan q).map (·.1))
def seatC (g:Game) (i:SId) (q:g.θ):HProp:=all [seatR i.sb i.says i.turn i.fin,arr i.sb 3 (lastQ g q)]
def seatCs (g:Game) (ids:List SId) (qs:List g.θ):List HProp:=List.zipWith (seatC g) ids qs
def seatS {g:Game} (i:SId) (q:g.θ):Seat g.σ g.θ:=⟨i.says,i.turn,i.fin,.said q⟩
def seatSs {g:Game} (ids:List SId) (qs:List g.θ):List (Seat g.σ g.θ):=List.zipWith seatS ids qs
section
variable {g:Game} {wg pb:Nat} {ss ts cs:Value} {ids:List SId} {p:PS g} {F:List HProp}
abbrev playL (g:Game) (pb:Nat) (ss ts cs:Value) (ids:List SId) (p:PS g) (F:List HProp):List HProp :=
 g.U p.s::arr pb 0 [ss,ts,cs]::vec 1 ss (ptrs ids)::vec 3 ts (trCP p.tr)::all (seatCs g ids p.qs)::F
abbrev playX (g:Game) (wg:Nat) (ids:List SId) (p:PS g):MX:=gx g wg (seatSs ids p.qs) (some p.s) (16384-p.tr.length) ids.length
theorem takeF_len (k:Int):(takeF p k).1.qs.length=p.qs.length:=by
 unfold takeF
 split
 ·rfl
 split
 ·rfl
 split
 ·rfl
 split
 ·rfl
 ·simp
theorem takeF_le (h:p.tr.length≤16384) (k:Int):(takeF p k).1.tr.length≤16384:=by
 unfold takeF
 split
 ·exact h
 split
 ·exact h
 split
 ·exact h
 split
 ·exact h
 ·simp;omega
theorem take_out {k:Int} (hl:ids.length=p.qs.length) (hk:k<0∨(ids.length:Int)≤k) :
  Tr Try.prog mT 26 [.pointer (some ⟨pb,0,none⟩),.int .i64 k] (playL g pb ss ts cs ids p F) (playX g wg ids p) fun v L' x'=>v=.bool false∧L'=playL g pb ss ts cs ids p F∧x'=playX g wg ids p:=by
 refine tr_pure (of_has (.there (.there .here)) (vec_shape (by omega))) ?_
 rintro ⟨a,n,c,rfl,hn,_⟩
 have hn:n=ids.length:=by simp [ptrs] at hn;omega
 subst hn
 by_cases h0:k<0
 ·refine tr_of_body Try.func26 rfl Try.ntmps26 (by simp) fun um Q _ hQ=>?_
  simp only [argE,Nat.zero_add,Nat.reduceAdd]
  repeat (first | refine wlssT ?_ | refine we_seq ?_ | (refine wR ?_;try simp only [oS]) | refine wo_nil ?_ | refine wM ?_ | refine wA ?_ | (apply wo_no;exact rfl) | refine wK ?_ | refine wT ?_ | refine we_ret ?_)
  (first | refine or1 Try.func26 Try.results26 hQ rfl ?_ | refine on1 Try.func26 Try.results26 hQ rfl ?_)
  exact ⟨rfl,rfl,rfl⟩
 ·refine tr_of_body Try.func26 rfl Try.ntmps26 (by simp) fun um Q _ hQ=>?_
  simp only [argE,Nat.zero_add,Nat.reduceAdd]
  repeat (first | refine wlssF ?_ | refine wgeqT ?_ | refine we_seq ?_ | (refine wR ?_;try simp only [oS]) | refine wo_nil ?_ | refine wM ?_ | refine wA ?_ | (apply wo_no;exact rfl) | refine wK ?_ | refine wJ ?_ | refine wN ?_ | refine wD ?_ | refine wL ?_ | refine wE ?_ | refine wT ?_ | refine we_ret ?_)
  (first | refine or1 Try.func26 Try.results26 hQ rfl ?_ | refine on1 Try.func26 Try.results26 hQ rfl ?_)
  exact ⟨rfl,rfl,rfl⟩
theorem seat_pick {k:Nat} {i:SId} {q:g.θ} {L:List HProp} {h:Hp} (hi:ids[k]?=some i) (hq:p.qs[k]?=some q) (st:Star (all (seatCs g ids p.qs)::L) h) :
  Star (seatR i.sb i.says i.turn i.fin::arr i.sb 3 (lastQ g q)::all ((seatCs g ids p.qs).eraseIdx k)::L) h:=by
 have e:(seatCs g ids p.qs)[k]?=some (seatC g i q):=by simp [seatCs,List.getElem?_zipWith,hi,hq]
 exact star_open (M:=[_,_]) (star_pick e st)
theorem seat_put {k:Nat} {i:SId} {q q':g.θ} {L:List HProp} {h:Hp} (hi:ids[k]?=some i) (hq:p.qs[k]?=some q) (st:Star (seatR i.sb i.says i.turn i.fin::arr i.sb 3 (lastQ g q')::all ((seatCs g ids p.qs).eraseIdx k)::L) h) :
  Star (all (seatCs g ids (p.qs.set k q'))::L) h:=by
 have hlt:k<(seatCs g ids p.qs).length:=by
  have h1:=(List.getElem?_eq_some_iff.1 hi).1
  have h2:=(List.getElem?_eq_some_iff.1 hq).1
  simp [seatCs];omega
 have e:seatCs g ids (p.qs.set k q')=(seatCs g ids p.qs).set k (seatC g i q'):=zip_set hi
 rw [e]
 exact star_put hlt (star_shut (M:=[_,_]) st)
theorem take_no {k:Nat} {i:SId} {q:g.θ} (hi:ids[k]?=some i) (hq:p.qs[k]?=some q) (hno:g.plan q=none∨p.tr.length=16384) :
  Tr Try.prog mT 26 [.pointer (some ⟨pb,0,none⟩),.int .i64 (k:Nat)] (playL g pb ss ts cs ids p F) (playX g wg ids p) fun v L' x'=>v=.bool false∧L'=playL g pb ss ts cs ids p F∧x'=playX g wg ids p:=by
 have hk:=(List.getElem?_eq_some_iff.1 hi).1
 refine tr_pure (of_has (.there (.there .here)) (vec_shape (by omega))) ?_
 rintro ⟨a,n,c,rfl,hn,_,hnz,hy⟩
 have hn:n=ids.length:=by simp [ptrs] at hn;omega
 subst hn
 refine tr_pure (of_has (.there (.there (.there .here))) (vec_shape (by omega))) ?_
 rintro ⟨ta,tn,tc,rfl,htn,_⟩
 have htn:tn=p.tr.length:=by rw [trCP_len] at htn;omega
 subst htn
 cases a with
 | none=>have:=hnz rfl;omega
 | some ad =>
 obtain ⟨b,o,sp⟩:=ad
 have:=hy _ rfl
 simp only [Addr.mk.injEq,true_and] at this
 subst this
 refine Tr.post (R:=fun v L' x'=>v=.bool false∧x'=playX g wg ids p∧∀ h,Star L' h→Star (playL g pb (.slice (some ⟨b,o,none⟩) ids.length c) (.slice ta p.tr.length tc) cs ids p F) h) ?_
  (by rintro v L' x' ⟨rfl,rfl,h2⟩;exact ⟨_,⟨rfl,rfl,rfl⟩,h2⟩)
 let L1:List HProp:=seatR i.sb i.says i.turn i.fin::arr i.sb 3 (lastQ g q)::all ((seatCs g ids p.qs).eraseIdx k)::g.U p.s::arr pb 0 [.slice (some ⟨b,o,none⟩) ids.length c,.slice ta p.tr.length tc,cs]::vec 1 (.slice (some ⟨b,o,none⟩) ids.length c) (ptrs ids)::vec 3 (.slice ta p.tr.length tc) (trCP p.tr)::F
 refine tr_star L1 (fun h st=>seat_pick hi hq (((.there (.there (.there (.there .here)))):Has (playL g pb _ _ cs ids p F) _ _).star st)) ?_
 have hback:∀ h,Star L1 h→Star (playL g pb (.slice (some ⟨b,o,none⟩) ids.length c) (.slice ta p.tr.length tc) cs ids p F) h:=fun h st=>by
  have s1:=seat_put (q':=q) hi hq st
  have e:p.qs.set k q=p.qs:=set_same hq
  rw [e] at s1
  exact Ent.star (.take (.there .here) (.take (.there .here) (.take (.there .here) (.take (.there .here) (.take .here .refl))))) s1
 have rs:Rd L1 b (o+k) (.pointer (some ⟨i.sb,0,none⟩)):=rd_vec (cs:=ptrs ids) (.there (.there (.there (.there (.there .here))))) (by simp [ptrs,hi])
 have hlast:∃ m1 m2 q3,lastQ g q=[.int .u8 m1,.int .i64 m2,.bool q3]∧(q3=true∨(q3=false∧p.tr.length=16384)):=by
  unfold lastQ
  cases hp:g.plan q with
  | none=>exact ⟨_,_,_,rfl,.inl rfl⟩
  | some mf =>
   refine ⟨_,_,_,rfl,.inr ⟨rfl,hno.resolve_left (by rw [hp];simp)⟩⟩
 obtain ⟨m1,m2,q3,hl,hq3⟩:=hlast
 have rl:Rd L1 i.sb 5 (.bool q3):=Rd.of (.there .here) (by rw [hl];exact Rd.row (k:=2) rfl rfl)
 rcases hq3 with rfl | ⟨rfl,htr⟩
 ·refine tr_of_body Try.func26 rfl Try.ntmps26 (by simp) fun um Q _ hQ=>?_
  simp only [argE,Nat.zero_add,Nat.reduceAdd]
  repeat (first | (apply wo_po;apply mo_index1;exact rfl;exact rfl;omega;exact gY) | (apply wo_po;apply mo_load;exact rfl;(first | exact rs | exact rl | exact Rd.of (.there (.there (.there (.there .here)))) (Rd.row0 rfl));exact gY) | refine wlssF ?_ | refine wgeqF ?_ | refine we_seq ?_ | (refine wR ?_;try simp only [oS]) | refine wo_nil ?_ | refine wM ?_ | refine wA ?_ | (apply wo_no;exact rfl) | refine wK ?_ | refine wJ ?_ | refine wN ?_ | refine wD ?_ | refine wE ?_ | refine wT ?_ | refine we_ret ?_)
  (first | refine or1 Try.func26 Try.results26 hQ rfl ?_ | refine on1 Try.func26 Try.results26 hQ rfl ?_)
  exact ⟨rfl,rfl,hback⟩
 ·refine tr_of_body Try.func26 rfl Try.ntmps26 (by simp) fun um Q _ hQ=>?_
  simp only [argE,Nat.zero_add,Nat.reduceAdd]
  repeat (first | (apply wo_po;apply mo_index1;exact rfl;exact rfl;omega;exact gY) | (apply wo_po;apply mo_load;exact rfl;(first | exact rs | exact rl | exact Rd.of (.there (.there (.there (.there .here)))) (Rd.row0 rfl));exact gY) | refine wlssF ?_ | refine wgeqF ?_ | refine weqlT ?_ | refine we_seq ?_ | (refine wR ?_;try simp only [oS]) | refine wo_nil ?_ | refine wM ?_ | refine wA ?_ | refine wJ ?_ | refine wN ?_ | refine wD ?_ | refine wE ?_ | refine wT ?_ | refine we_ret ?_)
  (first | refine or1 Try.func26 Try.results26 hQ rfl ?_ | refine on1 Try.func26 Try.results26 hQ rfl ?_)
  exact ⟨rfl,rfl,hback⟩
theorem take_yes {k:Nat} {i:SId} {q:g.θ} {m:Int × Int} {f:g.σ→g.σ × g.θ} (hl:ids.length=p.qs.length) (hi:ids[k]?=some i) (hq:p.qs[k]?=some q) (hpl:g.plan q=some (m,f)) (htr:p.tr.length<16384) (hok:g.ok p.s) :
  Tr Try.prog mT 26 [.pointer (some ⟨pb,0,none⟩),.int .i64 (k:Nat)] (playL g pb ss ts cs ids p F) (playX g wg ids p) fun v L' x'=>∃ ts',v=.bool true∧L'=playL g pb ss ts' cs ids ⟨(f p.s).1,p.qs.set k (f p.s).2,p.tr++[(k,m)]⟩ F∧x'=playX g wg ids ⟨(f p.s).1,p.qs.set k (f p.s).2,p.tr++[(k,m)]⟩:=by
 have hk:=(List.getElem?_eq_some_iff.1 hi).1
 refine tr_pure (of_has (.there (.there .here)) (vec_shape (by omega))) ?_
 rintro ⟨a,n,c,rfl,hn,_,hnz,hy⟩
 have hn:n=ids.length:=by simp [ptrs] at hn;omega
 subst hn
 refine tr_pure (of_has (.there (.there (.there .here))) (vec_shape (by omega))) ?_
 rintro ⟨ta,tn,tc,rfl,htn,_⟩
 have htn:tn=p.tr.length:=by rw [trCP_len] at htn;omega
 subst htn
 cases a with
 | none=>have:=hnz rfl;omega
 | some ad =>
 obtain ⟨b,o,sp⟩:=ad
 have:=hy _ rfl
 simp only [Addr.mk.injEq,true_and] at this
 subst this
 refine Tr.post (R:=fun v L' x'=>∃ ts',v=.bool true∧x'=playX g wg ids ⟨(f p.s).1,p.qs.set k (f p.s).2,p.tr++[(k,m)]⟩∧∀ h,Star L' h→Star (playL g pb (.slice (some ⟨b,o,none⟩) ids.length c) ts' cs ids ⟨(f p.s).1,p.qs.set k (f p.s).2,p.tr++[(k,m)]⟩ F) h) ?_
  (by rintro v L' x' ⟨ts',rfl,rfl,h2⟩;exact ⟨_,⟨ts',rfl,rfl,rfl⟩,h2⟩)
 have hlq:lastQ g q=[.int .u8 m.1,.int .i64 m.2,.bool false]:=by unfold lastQ;rw [hpl];rfl
 let er:=all ((seatCs g ids p.qs).eraseIdx k)
 let L1:List HProp:=seatR i.sb i.says i.turn i.fin::arr i.sb 3 [.int .u8 m.1,.int .i64 m.2,.bool false]::arr pb 0 [.slice (some ⟨b,o,none⟩) ids.length c,.slice ta p.tr.length tc,cs]::vec 3 (.slice ta p.tr.length tc) (trCP p.tr)::vec 1 (.slice (some ⟨b,o,none⟩) ids.length c) (ptrs ids)::g.U p.s::er::F
 refine tr_star L1 (fun h st=>by have:=seat_pick hi hq (((.there (.there (.there (.there .here)))):Has (playL g pb _ _ cs ids p F) _ _).star st);rw [hlq] at this;exact Ent.star (.take .here (.take .here (.take (.there (.there .here)) (.take (.there (.there (.there .here))) (.take (.there (.there .here)) (.take (.there .here) (.take .here .refl))))))) this) ?_
 have rs:Rd L1 b (o+k) (.pointer (some ⟨i.sb,0,none⟩)):=rd_vec (cs:=ptrs ids) (.there (.there (.there (.there .here)))) (by simp [ptrs,hi])
 have rl:Rd L1 i.sb 5 (.bool false):=.there (Rd.row (k:=2) rfl rfl)
 have rt:Rd L1 i.sb 0 (.chan (some i.turn)):=Rd.fro (k:=0) rfl rfl
 have hsz:(seatSs ids p.qs).length=ids.length:=by simp [seatSs];omega
 have hsk:(seatSs ids p.qs)[k]?=some (⟨i.says,i.turn,i.fin,.said q⟩:Seat g.σ g.θ):=by simp [seatSs,List.getElem?_zipWith,hi,hq,seatS]
 refine tr_of_body Try.func26 rfl Try.ntmps26 (by simp) fun um Q _ hQ=>?_
 simp only [argE,Nat.zero_add,Nat.reduceAdd]
 repeat (first | (apply wo_po;apply mo_index1;exact rfl;exact rfl;omega;exact gY) | (apply wo_po;apply mo_load;exact rfl;(first | exact rs | exact rl | exact Rd.of (.there (.there .here)) (Rd.row0 rfl));exact gY) | refine wlssF ?_ | refine wgeqF ?_ | refine weqlF ?_ | refine we_seq ?_ | (refine wR ?_;try simp only [oS]) | refine wo_nil ?_ | refine wM ?_ | refine wA ?_ | refine wJ ?_ | refine wN ?_ | refine wD ?_ | refine wE ?_ | refine wF ?_ | refine we_skip ?_)
 refine we_draw (List.range' 0 19) (by kernel_rfl) ?_
 repeat (first | (apply ap_read;exact rfl;exact rfl;exact trivial;apply mo_load;exact rfl;exact Rd.of (.there (.there .here)) (Rd.row0 rfl)) | (apply ap_read;exact rfl;exact rfl;exact trivial;apply mo_loadA (vs:=[.int .u8 m.1,.int .i64 m.2]);exact rfl;exact rfl;exact Rds.row (k:=0) (.there .here) (by intro i v hv;match i,hv with | 0,hv=>exact hv | 1,hv=>exact hv)) | (apply ap_pure;exact rfl;exact rfl;exact trivial;intro L;apply mo_build (pv:=[(0,_),(1,_)]);exact rfl;exact .cons rfl (.cons rfl .nil);exact rfl) | refine aM ?_ | refine aN ?_ | refine aD ?_)
 have hone:∀ v∈[Value.int .i64 (k:Nat),.int .u8 m.1,.int .i64 m.2],one v=true:=by intro v hv;simp at hv;rcases hv with rfl | rfl | rfl <;> rfl
 refine ap_loudR rfl rfl rfl rfl trivial (mo_buildSlice (sz:=3) (vs:=[.agg #[.int .i64 (k:Nat),.int .u8 m.1,.int .i64 m.2]]) rfl (.cons rfl .nil) rfl (by intro v hv;cases (List.mem_singleton.1 hv);exact rfl) (by omega)) ?_ ?_
 ·rintro v L ⟨nb,rfl,rfl⟩ p hp
  replace hp:=(List.mem_filter.1 hp).1
  simp only [List.mem_cons,List.not_mem_nil,or_false] at hp
  rcases hp with rfl | rfl | rfl | rfl | rfl | rfl | rfl | rfl | rfl | rfl | rfl | rfl | rfl <;> first | exact .inl rfl | exact .inr ⟨_,rfl,trivial,mo_load rfl (Rd.of (.there (.there (.there .here))) (Rd.row0 rfl))⟩ | exact .inr ⟨_,rfl,trivial,mo_loadA rfl rfl (Rds.row (k:=0) (.there (.there .here)) (by intro i v hv;match i,hv with | 0,hv=>exact hv | 1,hv=>exact hv))⟩
 rintro v' L' ⟨nb,rfl,rfl⟩
 refine ap_loud rfl rfl rfl rfl rfl trivial (mo_append (sz:=3) (new:=[.int .i64 (k:Nat),.int .u8 m.1,.int .i64 m.2]) rfl rfl rfl rfl (.there (.there (.there (.there .here)))) rfl (.inr ⟨_,_,rfl,Rds.all .here⟩) hone (by simp only [sliceLen];omega)) ?_
 rintro v' L' rfl
 refine ap_know (of_has .here (vec_shape (by omega))) ?_
 rintro ⟨ua,un,uc,rfl,_⟩
 repeat (first | refine aN ?_ | refine aD ?_)
 refine ap_loud rfl rfl rfl rfl rfl trivial (mo_store rfl rfl rfl (Wt.row0 (k:=1) (.there (.there (.there (.there .here)))) (Nat.lt_of_sub_eq_succ rfl))) ?_
 rintro v' L' ⟨rfl,rfl⟩
 refine ap_end ?_
 have rt2:∀ {A C D:HProp} {M:List HProp},Rd (A::C::seatR i.sb i.says i.turn i.fin::D::M) i.sb 0 (.chan (some i.turn)):=.there (.there (Rd.fro (k:=0) rfl rfl))
 repeat (first | (apply wo_po;apply mo_load;exact rfl;exact rt2;exact gY) | (apply wo_po;apply mo_build (pv:=[]);exact rfl;exact .nil;exact rfl;exact trivial) | refine we_seq ?_ | (refine wR ?_;try simp only [oS]) | refine wM ?_ | refine wN ?_ | refine wD ?_)
 refine wo_turn (X:=⟨g,wg,seatSs ids p.qs,some p.s,16384-p.tr.length,ids.length,false,.play⟩) (j:=k) (lf:=16384-(p.tr.length+1)) (c:=⟨i.says,i.turn,i.fin,.said q⟩) (s:=p.s) (q:=q) rfl rfl rfl rfl hsk rfl hpl rfl (by show 16384-p.tr.length=_;omega) (by show ids.length=_;rw [hsz]) hok (.there (.there (.there (.there (.there (.there .here)))))) trivial ?_
 have rs2:∀ {A C D:HProp} {M:List HProp},Rd (A::C::seatR i.sb i.says i.turn i.fin::D::M) i.sb 2 (.chan (some i.says)):=.there (.there (Rd.fro (k:=2) rfl rfl))
 repeat (first | (apply wo_po;apply mo_load;exact rfl;exact rs2;exact gY) | refine we_seq ?_ | (refine wR ?_;try simp only [oS]) | refine wo_nil ?_ | refine wM ?_ | refine wN ?_ | refine wD ?_)
 refine wo_hear (X:=⟨g,wg,(seatSs ids p.qs).set k ⟨i.says,i.turn,i.fin,.run (f p.s).1 (f p.s).2⟩,none,16384-(p.tr.length+1),ids.length,false,.play⟩) (j:=k) (c:=⟨i.says,i.turn,i.fin,.run (f p.s).1 (f p.s).2⟩) (s:=(f p.s).1) (q:=(f p.s).2) rfl rfl rfl (List.getElem?_set_self (by rw [hsz];exact hk)) rfl rfl trivial ?_
 have hc:=lastC_says (g:=g) (q:=(f p.s).2)
 have hov:over [.int .u8 m.1,.int .i64 m.2,.bool false] 0 (g.says (f p.s).2).cells.toList=lastQ g (f p.s).2:=by
  rw [hc];unfold over;simp [lastC_len]
 repeat (first | refine wN ?_ | refine wD ?_)
 apply wo_pm
 exact mo_storeA (n:=3) (c:=3) (k:=0) (a:=3) (vs:=[.int .u8 m.1,.int .i64 m.2,.bool false]) rfl rfl (by rw [← Array.length_toList,hc];exact lastC_len) (by rw [hc];exact lastC_one) rfl (Nat.le_refl 3) (.there (.there (.there (.there .here))))
 exact trivial
 rw [hov]
 have hset:((seatSs ids p.qs).set k ⟨i.says,i.turn,i.fin,.run (f p.s).1 (f p.s).2⟩).set k ⟨i.says,i.turn,i.fin,.said (f p.s).2⟩=seatSs ids (p.qs.set k (f p.s).2):=by
  rw [List.set_set];exact (zip_set (f:=seatS) hi).symm
 repeat (first | refine we_seq ?_ | (refine wR ?_;try simp only [oS]) | refine wo_nil ?_ | refine wA ?_ | refine we_ret ?_)
 (first | refine or1 Try.func26 Try.results26 hQ rfl ?_ | refine on1 Try.func26 Try.results26 hQ rfl ?_)
 refine ⟨.slice ua un uc,rfl,?_,fun h st=>?_⟩
 ·show gx g wg (((seatSs ids p.qs).set k ⟨i.says,i.turn,i.fin,.run (f p.s).1 (f p.s).2⟩).set k ⟨i.says,i.turn,i.fin,.said (f p.s).2⟩) _ _ _=gx g wg _ _ _ _
  rw [hset]
  simp
 ·have st1:Star (seatR i.sb i.says i.turn i.fin::arr i.sb 3 (lastQ g (f p.s).2)::er::g.U (f p.s).1::arr pb 0 [.slice (some ⟨b,o,none⟩) ids.length c,.slice ua un uc,cs]::vec 1 (.slice (some ⟨b,o,none⟩) ids.length c) (ptrs ids)::vec 3 (.slice ua un uc) (trCP p.tr++[.int .i64 (k:Nat),.int .u8 m.1,.int .i64 m.2])::F) h:=Ent.star (.take (.there (.there (.there .here))) (.take (.there (.there (.there .here))) (.take (.there (.there (.there (.there (.there .here))))) (.take .here (.take (.there (.there .here)) (.take (.there (.there .here)) (.take .here (.drop .refl)))))))) st
  rw [← trCP_app] at st1
  have s1:=seat_put hi hq st1
  exact Ent.star (.take (.there .here) (.take (.there .here) (.take (.there .here) (.take (.there .here) (.take .here .refl))))) s1
theorem takes_tr {k:Int} (hl:ids.length=p.qs.length) (hle:p.tr.length≤16384) (hok:p.tr.length<16384→g.ok p.s) :
  Tr Try.prog mT 26 [.pointer (some ⟨pb,0,none⟩),.int .i64 k] (playL g pb ss ts cs ids p F) (playX g wg ids p) fun v L' x'=>∃ ts',v=.bool (takeF p k).2∧L'=playL g pb ss ts' cs ids (takeF p k).1 F∧x'=playX g wg ids (takeF p k).1:=by
 by_cases h0:k<0
 ·rw [show takeF p k=(p,false) by unfold takeF;rw [if_pos h0]]
  exact (take_out hl (.inl h0)).mono fun v L' x' h=>⟨ts,h⟩
 obtain ⟨n,rfl⟩:∃ n:Nat,k=n:=⟨k.toNat,by omega⟩
 cases hq:p.qs[n]? with
 | none =>
  have:=List.getElem?_eq_none_iff.1 hq
  rw [show takeF p (n:Int)=(p,false) by unfold takeF;rw [if_neg h0,Int.toNat_natCast,hq]]
  exact (take_out hl (.inr (by omega))).mono fun v L' x' h=>⟨ts,h⟩
 | some q =>
  have hn:=(List.getElem?_eq_some_iff.1 hq).1
  have hi:ids[n]?=some (ids[n]'(by omega)):=List.getElem?_eq_getElem _
  cases hpl:g.plan q with
  | none =>
   rw [show takeF p (n:Int)=(p,false) by unfold takeF;rw [if_neg h0,Int.toNat_natCast,hq];simp only [hpl]]
   exact (take_no hi hq (.inl hpl)).mono fun v L' x' h=>⟨ts,h⟩
  | some mf =>
   obtain ⟨m,f⟩:=mf
   by_cases htr:p.tr.length=16384
   ·rw [show takeF p (n:Int)=(p,false) by unfold takeF;rw [if_neg h0,Int.toNat_natCast,hq];simp only [hpl,if_pos htr]]
    exact (take_no hi hq (.inr htr)).mono fun v L' x' h=>⟨ts,h⟩
   ·rw [show takeF p (n:Int)=(⟨(f p.s).1,p.qs.set n (f p.s).2,p.tr++[(n,m)]⟩,true) by unfold takeF;rw [if_neg h0,Int.toNat_natCast,hq];simp only [hpl,if_neg htr]]
    exact (take_yes hl hi hq hpl (by omega) (hok (by omega))).mono fun v L' x' h=>h
end
end Go.Proofs.Ytaeegnfbofagcaa
namespace Go.PB
section
variable {P:Program} {B:Hand} {kd:CallKind} {n:Nat} {ops:Array Oper} {ord R:List Nat} {Pd:List Pn} {K:Post B} {e:Env} {z:Z} {L:List HProp} {x:B.X}
theorem ap1_swap {i f:Nat} {ord' R' pre idx:List Nat} {t:Array Value} {h:Hp} (hf:R.contains f=true) (hR:R.erase f=R') (hord:ord'=(ord.takeWhile fun q=>!(q == i))++f::i::R') (hok:okOrd n ops ord'=true)
  (b:Ap1 P B kd n ops ord' f (i::R') Pd K e z L x) (hpre:ord=pre++i::R) (hin:∀ p∈Pd,p.i∈pre) (ok:OkO n ops ord) (hpd:∀ p∈Pd,PdOk P n ops L p) (I:InvA n ops (i::R) Pd e (f::idx) t) (s:Star L h):Wr P B kd ops (f::idx) K t z h x:=by
 subst hR
 have hfR:f∈R:=by simpa using hf
 have hnd:(pre++i::R).Nodup:=hpre▸ok.nd
 have htw:ord.takeWhile (fun q=>!(q == i))=pre:=by rw [hpre];exact takeWhile_pre hnd
 have hnd2:=List.nodup_cons.1 (List.nodup_append.1 hnd).2.1
 have hmem:∀ y,(y∈f::i::R.erase f)↔y∈i::R:=by
  intro y
  simp only [List.mem_cons,hnd2.2.mem_erase_iff]
  constructor
  ·rintro (rfl | rfl | ⟨_,h⟩)
   ·exact .inr hfR
   ·exact .inl rfl
   ·exact .inr h
  ·rintro (rfl | h)
   ·exact .inr (.inl rfl)
   ·by_cases e:y=f
    ·exact .inl e
    ·exact .inr (.inr ⟨e,h⟩)
 refine b ⟨pre,by rw [hord,htw],hin⟩ (okOrd_ok hok) hpd idx t h ⟨I.sz,I.nd,I.lt,fun q hq=>?_,fun q hq=>I.all q ((hmem q).1 hq),fun p hp hh=>I.dj p hp ((hmem _).1 hh),I.pu,I.resp,I.dn,I.envok,I.pok⟩ s
 rcases I.sub q hq with h1 | h1
 ·exact .inl ((hmem q).2 h1)
 ·exact .inr h1
theorem ap_fork3 [Lets B] {i f g:Nat} {ordf ordg Rf Rg:List Nat} (hdom:(R.all fun j=>j == f||j == g||(anc ops ops.size j).contains i)=true) (hf:R.contains f=true) (hRf:R.erase f=Rf) (hordf:ordf=(ord.takeWhile fun q=>!(q == i))++f::i::Rf) (hokf:okOrd n ops ordf=true)
  (hg:R.contains g=true) (hRg:R.erase g=Rg) (hordg:ordg=(ord.takeWhile fun q=>!(q == i))++g::i::Rg) (hokg:okOrd n ops ordg=true)
  (a:Ap1 P B kd n ops ord i R Pd K e z L x) (b:Ap1 P B kd n ops ordf f (i::Rf) Pd K e z L x) (c:Ap1 P B kd n ops ordg g (i::Rg) Pd K e z L x):Ap P B kd n ops ord (i::R) Pd K e z L x:=by
 rintro ⟨pre,hpre,hin⟩ ok hpd
 refine ap_run ok hpd (fun t h I s=>?_) (fun j idx t h hj I s=>?_)
 ·have:=I.all i (by simp);simp at this
 ·by_cases hji:j=i
  ·subst hji
   exact a ⟨pre,hpre,hin⟩ ok hpd idx t h I s
  ·have hjf:j=f∨j=g:=by
    rcases List.mem_cons.1 hj with h1 | h1
    ·exact absurd h1 hji
    ·have:=(List.all_eq_true.1 hdom) j h1
     simp only [Bool.or_eq_true,beq_iff_eq,List.contains_eq_mem,decide_eq_true_eq] at this
     rcases this with h2 | h2
     ·exact h2
     ·exact absurd (I.all i (by simp)) (I.first ok h2)
   rcases hjf with rfl | rfl
   ·exact ap1_swap hf hRf hordf hokf b hpre hin ok hpd I s
   ·exact ap1_swap hg hRg hordg hokg c hpre hin ok hpd I s
theorem ap_fork2 [Lets B] {i f:Nat} {ordf Rf:List Nat} (hdom:(R.all fun j=>j == f||(anc ops ops.size j).contains i)=true) (hf:R.contains f=true) (hRf:R.erase f=Rf) (hordf:ordf=(ord.takeWhile fun q=>!(q == i))++f::i::Rf) (hokf:okOrd n ops ordf=true)
  (a:Ap1 P B kd n ops ord i R Pd K e z L x) (b:Ap1 P B kd n ops ordf f (i::Rf) Pd K e z L x):Ap P B kd n ops ord (i::R) Pd K e z L x:=by
 subst hRf;exact ap_fork hdom hf hordf hokf a b
end
end Go.PB
namespace Go.Proofs.Ytaeegnfbofagcaa
open Go Go.PB
attribute [local irreducible] Mo Bin Eql Tr Wo Ap Wle
section
variable {B:Hand} [Lets B] {L:List HProp} {x:B.X}
def isFn (v:Value):Prop:=∃ f u w,v=.func f u w
theorem wrong1_nil:Tr Try.prog B 36 [.nilFunc] L x fun v L' x'=>v=.bool true∧L'=L∧x'=x:=by
 refine tr_of_body Try.func36 rfl Try.ntmps36 (by simp) fun um Q _ hQ=>?_
 simp only [argE,Nat.zero_add,Nat.reduceAdd]
 repeat (first | (apply wo_po;apply mo_bin;exact rfl;exact rfl;apply bin_eq;apply eql_nilfunc_nil;exact trivial) | refine we_seq ?_ | (refine wR ?_;try simp only [oS]) | refine wo_nil ?_ | refine wM ?_ | refine wA ?_ | refine we_ret ?_)
 (first | refine or1 Try.func36 Try.results36 hQ rfl ?_ | refine on1 Try.func36 Try.results36 hQ rfl ?_)
 exact ⟨rfl,rfl,rfl⟩
theorem wrong1_fn {v:Value} (hv:isFn v):Tr Try.prog B 36 [v] L x fun v L' x'=>v=.bool false∧L'=L∧x'=x:=by
 obtain ⟨f,u,w,rfl⟩:=hv
 refine tr_of_body Try.func36 rfl Try.ntmps36 (by simp) fun um Q _ hQ=>?_
 simp only [argE,Nat.zero_add,Nat.reduceAdd]
 repeat (first | (apply wo_po;apply mo_bin;exact rfl;exact rfl;apply bin_eq;apply eql_func_nil;exact trivial) | refine we_seq ?_ | (refine wR ?_;try simp only [oS]) | refine wo_nil ?_ | refine wM ?_ | refine wA ?_ | refine we_ret ?_)
 (first | refine or1 Try.func36 Try.results36 hQ rfl ?_ | refine on1 Try.func36 Try.results36 hQ rfl ?_)
 exact ⟨rfl,rfl,rfl⟩
def RdsO (L:List HProp) (a:Option Addr) (n:Nat) (vs:List Value):Prop:=n=vs.length∧(n=0∨∃ b o,a=some ⟨b,o,none⟩∧Rds L b o vs)
theorem RdsO.there {L:List HProp} {c:HProp} {a:Option Addr} {n:Nat} {vs:List Value} (h:RdsO L a n vs):RdsO (c::L) a n vs :=
 ⟨h.1,h.2.imp id fun ⟨b,o,e,r⟩=>⟨b,o,e,fun i v hi=>.there (r i v hi)⟩⟩
theorem RdsO.rds {L:List HProp} {a:Option Addr} {n:Nat} {vs:List Value} (h:RdsO L a n vs) (hn:0<n):∃ b o,a=some ⟨b,o,none⟩∧Rds L b o vs:=by
 rcases h.2 with h0 | h
 ·omega
 ·exact h
def idxInv (tv fv:Value) (vs:List Value) (L:List HProp) (x:B.X):PB.Inv Nat B.X where
 e:=fun i=>[(0,tv),(1,fv),(7,.int .i64 (vs.length:Nat)),(8,.int .i64 (i:Nat))]
 L:=fun _=>L
 x:=fun _=>x
 ok:=fun i=>i≤vs.length∧∀ k v,k<i→vs[k]?=some v→isFn v
theorem index_tr {a:Option Addr} {n c:Nat} {vs:List Value} (hvs:∀ v∈vs,v=.nilFunc∨isFn v) (hr:RdsO L a n vs) (hb:n<1000000) :
  Tr Try.prog B 55 [.slice a n c,.func (.func 36) #[] #[]] L x fun v L' x'=>(∃ j:Int,v=.int .i64 j∧((j<0∧∀ v∈vs,isFn v)∨(0≤j∧.nilFunc∈vs)))∧L'=L∧x'=x:=by
 obtain ⟨rfl,hr⟩:=hr
 refine tr_of_body Try.func55 rfl Try.ntmps55 (by simp) fun um Q _ hQ=>?_
 simp only [argE,Nat.zero_add,Nat.reduceAdd]
 repeat (first | refine we_seq ?_ | (refine wR ?_;try simp only [oS]) | refine wo_nil ?_ | refine wM ?_ | refine wA ?_ | refine wE ?_ | refine we_block ?_)
 refine we_loopN (idxInv (.slice a vs.length c) (.func (.func 36) #[] #[]) vs L x) (fun i=>vs.length-i) 0 ⟨by omega,fun k v h=>by omega⟩ ⟨rfl,rfl,rfl,rfl,trivial⟩ .refl rfl ?_
 rintro i ⟨hi,hbe⟩
 simp only [idxInv]
 by_cases hlt:i<vs.length
 ·obtain ⟨b,o,rfl,hrd⟩:∃ b o,a=some ⟨b,o,none⟩∧Rds L b o vs:=by
   rcases hr with h | h
   ·omega
   ·exact h
  have hri:=hrd i vs[i] (List.getElem?_eq_getElem hlt)
  repeat (first | (apply wo_po;apply mo_index1;exact rfl;exact rfl;omega;exact gY) | (apply wo_po;apply mo_load;exact rfl;exact hri;exact trivial) | refine wlssT ?_ | refine we_seq ?_ | (refine wR ?_;try simp only [oS]) | refine wo_nil ?_ | refine wM ?_ | refine wA ?_ | refine wT ?_ | refine we_skip ?_ | refine we_block ?_)
  rcases hvs vs[i] (List.getElem_mem hlt) with hv | hv
  ·rw [hv]
   refine wo_callv (args:=[_]) (first:=[]) (cap:=[]) rfl rfl (.cons rfl .nil) trivial (R:=fun v L' x'=>v=.bool true∧L'=L∧x'=x) wrong1_nil ?_
   rintro v L' x' ⟨rfl,rfl,rfl⟩
   repeat (first | refine we_seq ?_ | (refine wR ?_;try simp only [oS]) | refine wo_nil ?_ | refine wM ?_ | refine wA ?_ | refine wT ?_ | refine we_ret ?_)
   (first | refine or1 Try.func55 Try.results55 hQ rfl ?_ | refine on1 Try.func55 Try.results55 hQ rfl ?_)
   exact ⟨⟨_,rfl,.inr ⟨by omega,by rw [← hv];exact List.getElem_mem hlt⟩⟩,rfl,rfl⟩
  ·refine wo_callv (args:=[_]) (first:=[]) (cap:=[]) rfl rfl (.cons rfl .nil) trivial (R:=fun v L' x'=>v=.bool false∧L'=L∧x'=x) (wrong1_fn hv) ?_
   rintro v L' x' ⟨rfl,rfl,rfl⟩
   repeat (first | (refine wR ?_;try simp only [oS]) | refine wo_nil ?_ | refine wM ?_ | refine wadd ?_ | refine wF ?_ | refine we_skip ?_)
   refine at_round (I:=idxInv (.slice (some ⟨b,o,none⟩) vs.length c) (.func (.func 36) #[] #[]) vs _ x') (R:=fun j=>vs.length-j<vs.length-i) (i+1) (by omega) ⟨by omega,fun k v hk hv'=>?_⟩ ⟨rfl,rfl,rfl,rfl,trivial⟩ .refl rfl
   by_cases e:k=i
   ·subst e;rw [List.getElem?_eq_getElem hlt] at hv';cases hv';exact hv
   ·exact hbe k v (by omega) hv'
 ·repeat (first | refine wlssF ?_ | refine we_seq ?_ | (refine wR ?_;try simp only [oS]) | refine wo_nil ?_ | refine wA ?_ | refine wF ?_ | refine we_ret ?_ | refine we_exit ?_)
  (first | refine or1 Try.func55 Try.results55 hQ rfl ?_ | refine on1 Try.func55 Try.results55 hQ rfl ?_)
  refine ⟨⟨_,rfl,.inl ⟨by omega,fun v hv=>?_⟩⟩,rfl,rfl⟩
  obtain ⟨k,hk⟩:=List.mem_iff_getElem?.1 hv
  exact hbe k v (by have:=(List.getElem?_eq_some_iff.1 hk).1;omega) hk
theorem contains_tr {a:Option Addr} {n c:Nat} {vs:List Value} (hvs:∀ v∈vs,v=.nilFunc∨isFn v) (hr:RdsO L a n vs) (hb:n<1000000) :
  Tr Try.prog B 35 [.slice a n c,.func (.func 36) #[] #[]] L x fun v L' x'=>(∃ q,v=.bool q∧(if q=true then .nilFunc∈vs else ∀ v∈vs,isFn v))∧L'=L∧x'=x:=by
 refine tr_of_body Try.func35 rfl Try.ntmps35 (by simp) fun um Q _ hQ=>?_
 simp only [argE,Nat.zero_add,Nat.reduceAdd]
 repeat (first | refine we_seq ?_ | (refine wR ?_;try simp only [oS]) | refine wo_nil ?_ | refine wM ?_ | refine wA ?_)
 refine wo_call (.cons rfl (.cons rfl .nil)) trivial (index_tr hvs hr hb) ?_
 rintro v L' x' ⟨⟨j,rfl,hj⟩,rfl,rfl⟩
 rcases hj with ⟨h1,h2⟩ | ⟨h1,h2⟩
 ·repeat (first | refine wgeqF ?_ | refine wo_nil ?_ | refine wA ?_ | refine we_ret ?_)
  (first | refine or1 Try.func35 Try.results35 hQ rfl ?_ | refine on1 Try.func35 Try.results35 hQ rfl ?_)
  exact ⟨⟨false,rfl,h2⟩,rfl,rfl⟩
 ·repeat (first | refine wgeqT ?_ | refine wo_nil ?_ | refine wA ?_ | refine we_ret ?_)
  (first | refine or1 Try.func35 Try.results35 hQ rfl ?_ | refine on1 Try.func35 Try.results35 hQ rfl ?_)
  exact ⟨⟨true,rfl,h2⟩,rfl,rfl⟩
theorem wrong_tr {a:Option Addr} {n c:Nat} {vs:List Value} (hvs:∀ v∈vs,v=.nilFunc∨isFn v) (hr:RdsO L a n vs) (hb:n<1000000) :
  Tr Try.prog B 24 [.slice a n c] L x fun v L' x'=>(∃ k:Int,v=.int .i64 k∧(((k=1∧.nilFunc∈vs)∨((∀ v∈vs,isFn v)∧k=if vs.length=0 then 2 else if 16<vs.length then 4 else 0))))∧L'=L∧x'=x:=by
 have hn:=hr.1
 refine tr_of_body Try.func24 rfl Try.ntmps24 (by simp) fun um Q _ hQ=>?_
 simp only [argE,Nat.zero_add,Nat.reduceAdd]
 repeat (first | refine we_seq ?_ | (refine wR ?_;try simp only [oS]) | refine wo_nil ?_ | refine wM ?_ | refine wA ?_ | refine we_block ?_)
 refine wo_call (.cons rfl (.cons rfl .nil)) trivial (contains_tr hvs hr hb) ?_
 rintro v L' x' ⟨⟨q,rfl,hq⟩,rfl,rfl⟩
 cases q with
 | true =>
  repeat (first | refine we_seq ?_ | (refine wR ?_;try simp only [oS]) | refine wo_nil ?_ | refine wA ?_ | refine wT ?_ | refine we_ret ?_)
  (first | refine or1 Try.func24 Try.results24 hQ rfl ?_ | refine on1 Try.func24 Try.results24 hQ rfl ?_)
  exact ⟨⟨_,rfl,.inl ⟨rfl,hq⟩⟩,rfl,rfl⟩
 | false =>
  by_cases h0:n=0
  ·repeat (first | refine weqlT ?_ | refine we_seq ?_ | (refine wR ?_;try simp only [oS]) | refine wo_nil ?_ | refine wM ?_ | refine wA ?_ | refine wE ?_ | refine wT ?_ | refine wF ?_ | refine we_ret ?_)
   (first | refine or1 Try.func24 Try.results24 hQ rfl ?_ | refine on1 Try.func24 Try.results24 hQ rfl ?_)
   exact ⟨⟨_,rfl,.inr ⟨hq,by rw [if_pos (by omega)]⟩⟩,rfl,rfl⟩
  by_cases h1:16<n
  ·repeat (first | refine wgtrT ?_ | refine weqlF ?_ | refine we_seq ?_ | (refine wR ?_;try simp only [oS]) | refine wo_nil ?_ | refine wM ?_ | refine wA ?_ | refine wE ?_ | refine wT ?_ | refine wF ?_ | refine we_ret ?_)
   (first | refine or1 Try.func24 Try.results24 hQ rfl ?_ | refine on1 Try.func24 Try.results24 hQ rfl ?_)
   exact ⟨⟨_,rfl,.inr ⟨hq,by rw [if_neg (by omega),if_pos (by omega)]⟩⟩,rfl,rfl⟩
  ·repeat (first | refine wgtrF ?_ | refine weqlF ?_ | refine we_seq ?_ | (refine wR ?_;try simp only [oS]) | refine wo_nil ?_ | refine wM ?_ | refine wA ?_ | refine wE ?_ | refine wF ?_ | refine we_ret ?_ | refine we_skip ?_)
   (first | refine or1 Try.func24 Try.results24 hQ rfl ?_ | refine on1 Try.func24 Try.results24 hQ rfl ?_)
   exact ⟨⟨_,rfl,.inr ⟨hq,by rw [if_neg (by omega),if_neg (by omega)]⟩⟩,rfl,rfl⟩
end
end Go.Proofs.Ytaeegnfbofagcaa
namespace Go.Proofs.Ytaeegnfbofagcaa
open Go Go.PB
attribute [local irreducible] Mo Bin Eql Tr Wo Ap Wle
attribute [local instance] Pass.of_no
section
structure Thr (g:Game) where
 fv:Value
 ini:g.σ→g.σ × g.θ
 M:HProp
section
variable {g:Game}
def startF:List (Thr g)→g.σ→g.σ × List g.θ
 | [],s=>(s,[])
 | t::ts,s=>((startF ts (t.ini s).1).1,(t.ini s).2::(startF ts (t.ini s).1).2)
theorem startF_snoc {t:Thr g}:∀ (l:List (Thr g)) (s:g.σ),startF (l++[t]) s=((t.ini (startF l s).1).1,(startF l s).2++[(t.ini (startF l s).1).2])
 | [],s=>rfl
 | a::l,s=>by simp only [List.cons_append,startF,startF_snoc l]
theorem startF_len:∀ (l:List (Thr g)) (s:g.σ),(startF l s).2.length=l.length
 | [],s=>rfl
 | a::l,s=>by simp [startF,startF_len l]
def ordF (p:PS g) (order:List Int):PS g:=order.foldl (fun p k=>(takeF p k).1) p
def roundF (p:PS g):Nat→PS g × Bool
 | 0=>(p,false)
 | k+1=>((takeF (roundF p k).1 k).1,(takeF (roundF p k).1 k).2||(roundF p k).2)
def restF:Nat→PS g→PS g
 | 0,p=>p
 | n+1,p=>if (roundF p p.qs.length).2=true then restF n (roundF p p.qs.length).1 else (roundF p p.qs.length).1
def playF (ts:List (Thr g)) (s:g.σ) (order:List Int):PS g:=restF 16385 (ordF ⟨(startF ts s).1,(startF ts s).2,[]⟩ order)
def cutC (l:List Nat):List Value:=l.map fun k=>.int .i64 (k:Nat)
theorem roundF_len (p:PS g):∀ n,(roundF p n).1.qs.length=p.qs.length
 | 0=>rfl
 | n+1=>by show (takeF _ _).1.qs.length=_;rw [takeF_len,roundF_len p n]
theorem roundF_le {p:PS g} (h:p.tr.length≤16384):∀ n,(roundF p n).1.tr.length≤16384
 | 0=>h
 | n+1=>takeF_le (roundF_le h n) _
theorem takeF_cases (p:PS g) (k:Int):takeF p k=(p,false)∨∃ (n:Nat) (q:g.θ) (m:Int × Int) (f:g.σ→g.σ × g.θ),k=n∧p.qs[n]?=some q∧g.plan q=some (m,f)∧p.tr.length≠16384∧takeF p k=(⟨(f p.s).1,p.qs.set n (f p.s).2,p.tr++[(n,m)]⟩,true):=by
 by_cases h0:k<0
 ·left;unfold takeF;rw [if_pos h0]
 obtain ⟨n,rfl⟩:∃ n:Nat,k=n:=⟨k.toNat,by omega⟩
 cases hq:p.qs[n]? with
 | none=>left;unfold takeF;rw [if_neg h0,Int.toNat_natCast,hq]
 | some q =>
  cases hpl:g.plan q with
  | none=>left;unfold takeF;rw [if_neg h0,Int.toNat_natCast,hq];simp only [hpl]
  | some mf =>
   obtain ⟨m,f⟩:=mf
   by_cases htr:p.tr.length=16384
   ·left;unfold takeF;rw [if_neg h0,Int.toNat_natCast,hq];simp only [hpl,if_pos htr]
   ·right;refine ⟨n,q,m,f,rfl,hq,hpl,htr,?_⟩
    unfold takeF;rw [if_neg h0,Int.toNat_natCast,hq];simp only [hpl,if_neg htr]
theorem takeF_grow (p:PS g) (k:Int):p.tr.length+(if (takeF p k).2=true then 1 else 0)≤(takeF p k).1.tr.length:=by
 rcases takeF_cases p k with h | ⟨n,q,m,f,_,_,_,_,h⟩ <;> rw [h] <;> simp
theorem roundF_grow (p:PS g):∀ n,p.tr.length+(if (roundF p n).2=true then 1 else 0)≤(roundF p n).1.tr.length
 | 0=>by simp [roundF]
 | n+1=>by
  have h1:=roundF_grow p n
  have h2:=takeF_grow (roundF p n).1 n
  show p.tr.length+(if ((takeF (roundF p n).1 n).2||(roundF p n).2)=true then 1 else 0)≤(takeF (roundF p n).1 n).1.tr.length
  cases h3:(takeF (roundF p n).1 n).2 <;> cases h4:(roundF p n).2 <;> simp [h3,h4] at h1 h2 ⊢ <;> omega
theorem ordF_len (order:List Int):∀ p:PS g,(ordF p order).qs.length=p.qs.length:=by
 induction order with
 | nil=>intro p;rfl
 | cons k l ih=>intro p;show (ordF (takeF p k).1 l).qs.length=_;rw [ih,takeF_len]
theorem ordF_le (order:List Int):∀ p:PS g,p.tr.length≤16384→(ordF p order).tr.length≤16384:=by
 induction order with
 | nil=>intro p h;exact h
 | cons k l ih=>intro p h;exact ih _ (takeF_le h k)
theorem ordF_snoc (p:PS g) (l:List Int) (k:Int):ordF p (l++[k])=(takeF (ordF p l) k).1:=by simp [ordF]
def cutN (g:Game) (qs:List g.θ) (j:Nat):List Nat:=(List.range j).filter fun k=>((qs[k]?).bind g.plan).isSome
theorem cutN_succ {qs:List g.θ} {j:Nat}:cutN g qs (j+1)=cutN g qs j++(if ((qs[j]?).bind g.plan).isSome=true then [j] else []):=by
 unfold cutN
 rw [List.range_succ,List.filter_append]
 congr 1
 simp only [List.filter_cons,List.filter_nil]
def shutS (ids:List SId) (qs:List g.θ) (j:Nat):List (Seat g.σ g.θ):=(List.zip ids qs).mapIdx fun k iq=>if k<j then ⟨iq.1.says,iq.1.turn,iq.1.fin,.shut iq.2⟩ else seatS iq.1 iq.2
theorem shutS_zero {ids:List SId} {qs:List g.θ}:shutS ids qs 0=seatSs ids qs:=by
 apply List.ext_getElem?
 intro k
 simp only [shutS,List.getElem?_mapIdx,seatSs,List.getElem?_zipWith,List.getElem?_zip_eq_some,List.zip,Nat.not_lt_zero,if_false]
 cases ids[k]? <;> cases qs[k]? <;> rfl
theorem shutS_len {ids:List SId} {qs:List g.θ} {j:Nat} (h:ids.length=qs.length):(shutS ids qs j).length=ids.length:=by simp [shutS];omega
theorem shutS_get {ids:List SId} {qs:List g.θ} {j k:Nat} {i:SId} {q:g.θ} (hi:ids[k]?=some i) (hq:qs[k]?=some q):(shutS ids qs j)[k]?=some (if k<j then ⟨i.says,i.turn,i.fin,.shut q⟩ else seatS i q):=by
 simp [shutS,List.getElem?_mapIdx,List.zip,List.getElem?_zipWith,hi,hq]
theorem shutS_succ {ids:List SId} {qs:List g.θ} {j:Nat} {i:SId} {q:g.θ} (hi:ids[j]?=some i) (hq:qs[j]?=some q):(shutS ids qs j).set j ⟨i.says,i.turn,i.fin,.shut q⟩=shutS ids qs (j+1):=by
 apply List.ext_getElem?
 intro k
 have hj:j<(shutS ids qs j).length:=(List.getElem?_eq_some_iff.1 (shutS_get (j:=j) hi hq)).1
 rw [List.getElem?_set]
 by_cases e:j=k
 ·subst e
  rw [if_pos rfl,if_pos hj,shutS_get hi hq,if_pos (by omega)]
 ·rw [if_neg e]
  simp only [shutS,List.getElem?_mapIdx]
  cases (ids.zip qs)[k]? with
  | none=>rfl
  | some iq =>
   simp only [Option.map_some,Option.some.injEq]
   by_cases h:k<j
   ·rw [if_pos h,if_pos (by omega)]
   ·rw [if_neg h,if_neg (by omega)]
theorem shutS_all {ids:List SId} {qs:List g.θ} (h:ids.length=qs.length):(shutS ids qs ids.length).map Seat.fins=qs.map g.Fin:=by
 apply List.ext_getElem?
 intro k
 by_cases hk:k<ids.length
 ·have hi:=List.getElem?_eq_getElem hk
  have hq:=List.getElem?_eq_getElem (show k<qs.length by omega)
  rw [List.getElem?_map,shutS_get hi hq,if_pos hk,List.getElem?_map,hq]
  rfl
 ·rw [List.getElem?_eq_none (by simp [shutS_len h];omega),List.getElem?_eq_none (by simp;omega)]
theorem shutS_closed {ids:List SId} {qs:List g.θ} (h:ids.length=qs.length):∀ s∈shutS ids qs ids.length,s.closed:=by
 intro s hs
 obtain ⟨k,hk⟩:=List.mem_iff_getElem?.1 hs
 have hlt:=(List.getElem?_eq_some_iff.1 hk).1
 rw [shutS_len h] at hlt
 rw [shutS_get (List.getElem?_eq_getElem hlt) (List.getElem?_eq_getElem (show k<qs.length by omega)),if_pos hlt] at hk
 cases hk
 trivial
end
section
variable {g:Game} {ts:List (Thr g)} {s0:g.σ} {F:List HProp} {wg pb rb:Nat} {ov tv:Value}
theorem star_head {c:HProp} {M L:List HProp} {h:Hp} (s:Star (all (c::M)::L) h):Star (c::all M::L) h :=
 star_map (star_open s) (fun _ a=>a) (fun _ st=>star_shut (M:=M) st)
def startInvP (ts:List (Thr g)) (s0:g.σ) (wg pb rb:Nat) (ov tv:Value) (F:List HProp):PB.Inv (Nat × g.σ × List g.θ × List SId × Value) MX where
 e:=fun i=>[(0,ov),(1,tv),(4,.pointer (some ⟨rb,0,none⟩)),(7,.pointer (some ⟨wg,0,none⟩)),(8,.pointer (some ⟨pb,0,none⟩)),(28,tv),(29,.int .i64 (ts.length:Nat)),(30,.int .i64 (i.1:Nat))]
 L:=fun i=>g.U i.2.1::arr pb 0 [i.2.2.2.2,.slice none 0 0,.slice none 0 0]::vec 1 i.2.2.2.2 (ptrs i.2.2.2.1)::all (seatCs g i.2.2.2.1 i.2.2.1)::all ((ts.drop i.1).map Thr.M)::arr rb 0 [.slice none 0 0,.slice none 0 0]::F
 x:=fun i=>gx g wg (seatSs i.2.2.2.1 i.2.2.1) (some i.2.1) 16384 (seatSs i.2.2.2.1 i.2.2.1).length
 ok:=fun i=>i.1≤ts.length∧i.2.2.2.1.length=i.1∧startF (ts.take i.1) s0=(i.2.1,i.2.2.1)
def seatMid (wg pb rb j n:Nat) (ov tv fv:Value) (x:MX) (L:List HProp):PB.Inv (Nat × Nat × Nat × Nat) MX where
 e:=fun i=>[(0,ov),(1,tv),(4,.pointer (some ⟨rb,0,none⟩)),(7,.pointer (some ⟨wg,0,none⟩)),(8,.pointer (some ⟨pb,0,none⟩)),(28,tv),(29,.int .i64 (n:Nat)),(30,.int .i64 (j:Nat)),(10,fv),(11,.pointer (some ⟨i.1,0,none⟩))]
 L:=fun i=>arr i.1 0 [.chan (some i.2.2.1),.chan (some i.2.2.2),.chan (some i.2.1),.int .u8 0,.int .i64 0,.bool false]::ob i.2.1 newChan::ob i.2.2.1 newChan::ob i.2.2.2 newChan::L
 x:=fun _=>x
 ok:=fun _=>True
def ordInv (p0:PS g) (order:List Int) (ids:List SId) (wg pb rb:Nat) (ov:Value) (ss:Value) (F:List HProp):PB.Inv (Nat × Value) MX where
 e:=fun i=>[(4,.pointer (some ⟨rb,0,none⟩)),(7,.pointer (some ⟨wg,0,none⟩)),(8,.pointer (some ⟨pb,0,none⟩)),(49,ov),(50,.int .i64 (order.length:Nat)),(51,.int .i64 (i.1:Nat))]
 L:=fun i=>playL g pb ss i.2 (.slice none 0 0) ids (ordF p0 (order.take i.1)) F
 x:=fun i=>playX g wg ids (ordF p0 (order.take i.1))
 ok:=fun i=>i.1≤order.length
def restInv (I:PS g→Prop) (p0:PS g) (ids:List SId) (wg pb rb:Nat) (ss:Value) (F:List HProp):PB.Inv (Nat × PS g × Value × Bool) MX where
 e:=fun i=>[(4,.pointer (some ⟨rb,0,none⟩)),(7,.pointer (some ⟨wg,0,none⟩)),(8,.pointer (some ⟨pb,0,none⟩)),(14,.bool i.2.2.2)]
 L:=fun i=>playL g pb ss i.2.2.1 (.slice none 0 0) ids i.2.1 F
 x:=fun i=>playX g wg ids i.2.1
 ok:=fun i=>I i.2.1∧i.2.1.qs.length=p0.qs.length∧i.2.1.tr.length≤16384∧(if i.2.2.2=true then restF i.1 i.2.1=restF 16385 p0∧16384<i.2.1.tr.length+i.1 else i.2.1=restF 16385 p0)
def rndInvP (p:PS g) (ids:List SId) (wg pb rb:Nat) (ss:Value) (F:List HProp):PB.Inv (Nat × Value) MX where
 e:=fun i=>[(4,.pointer (some ⟨rb,0,none⟩)),(7,.pointer (some ⟨wg,0,none⟩)),(8,.pointer (some ⟨pb,0,none⟩)),(14,.bool (roundF p i.1).2),(61,.int .i64 (ids.length:Nat)),(62,.int .i64 (i.1:Nat))]
 L:=fun i=>playL g pb ss i.2 (.slice none 0 0) ids (roundF p i.1).1 F
 x:=fun i=>playX g wg ids (roundF p i.1).1
 ok:=fun i=>i.1≤ids.length
def cutInv (p:PS g) (ids:List SId) (wg pb rb:Nat) (ss tsv:Value) (F:List HProp):PB.Inv (Nat × Value) MX where
 e:=fun i=>[(4,.pointer (some ⟨rb,0,none⟩)),(7,.pointer (some ⟨wg,0,none⟩)),(8,.pointer (some ⟨pb,0,none⟩)),(72,ss),(73,.int .i64 (ids.length:Nat)),(74,.int .i64 (i.1:Nat))]
 L:=fun i=>vec 1 i.2 (cutC (cutN g p.qs i.1))::arr pb 0 [ss,tsv,i.2]::vec 1 ss (ptrs ids)::vec 3 tsv (trCP p.tr)::all (seatCs g ids p.qs)::g.U p.s::F
 x:=fun i=>gx g wg (shutS ids p.qs i.1) (some p.s) (16384-p.tr.length) ids.length
 ok:=fun i=>i.1≤ids.length
set_option maxHeartbeats 4000000 in
theorem plays_tr {oa ta:Option Addr} {on oc tn tc:Nat} {order:List Int} (I:PS g→Prop) (hS:∀ j,j<ts.length→g.ok (startF (ts.take j) s0).1) (hI0:I ⟨(startF ts s0).1,(startF ts s0).2,[]⟩) (hIs:∀ p k,I p→I (takeF p k).1) (hIo:∀ p,I p→p.tr.length<16384→g.ok p.s) (hfin:∀ q h,g.Pv q h→g.Fin q h) (hts:∀ t∈ts,ThrOk g t.ini t.fv t.M) (h1:0<ts.length) (h16:ts.length≤16) (hor:order.length≤16384)
  (hrt:RdsO F ta tn (ts.map Thr.fv)) (hro:RdsO F oa on (order.map fun k=>.int .i64 k)) :
  Tr Try.prog mT 13 [.slice oa on oc,.slice ta tn tc] (g.U s0::all (ts.map Thr.M)::F) .idle fun v L' x' =>
   ∃ tv cv,v=.tuple #[.agg #[tv,cv],.int .i64 0]∧x'=.idle∧L'=vec 3 tv (trCP (playF ts s0 order).tr)::vec 1 cv (cutC (cutN g (playF ts s0 order).qs ts.length))::g.U (playF ts s0 order).s::all ((playF ts s0 order).qs.map g.Fin)::F:=by
 refine Tr.post (R:=fun v L' x'=>∃ tv cv,v=.tuple #[.agg #[tv,cv],.int .i64 0]∧x'=MX.idle∧∀ h,Star L' h→Star (vec 3 tv (trCP (playF ts s0 order).tr)::vec 1 cv (cutC (cutN g (playF ts s0 order).qs ts.length))::g.U (playF ts s0 order).s::all ((playF ts s0 order).qs.map g.Fin)::F) h) ?_
  (by rintro v L' x' ⟨tv,cv,rfl,rfl,h2⟩;exact ⟨_,⟨tv,cv,rfl,rfl,rfl⟩,h2⟩)
 have hfn:∀ v∈ts.map Thr.fv,isFn v:=by
  intro v hv
  obtain ⟨t,ht,rfl⟩:=List.mem_map.1 hv
  obtain ⟨f,first,cap,hc,_⟩:=(hts t ht).run
  revert hc
  cases t.fv with
  | func a b c=>exact fun _=>⟨a,b,c,rfl⟩
  | _=>intro hc;cases hc
 have hIord:∀ (l:List Int) (p:PS g),I p→I (ordF p l):=by
  intro l
  induction l with
  | nil=>exact fun p h=>h
  | cons k l ih=>exact fun p h=>ih _ (hIs p k h)
 have hIrnd:∀ (p:PS g) k,I p→I (roundF p k).1:=by
  intro p k h
  induction k with
  | zero=>exact h
  | succ k ih=>exact hIs _ _ ih
 have htn:tn=ts.length:=by have:=hrt.1;simpa using this
 have hon:on=order.length:=by have:=hro.1;simpa using this
 subst htn
 subst hon
 refine tr_of_body Try.func13 rfl Try.ntmps13 (by simp) fun um Q _ hQ=>?_
 simp only [argE,Nat.zero_add,Nat.reduceAdd]
 repeat (first | (apply wo_mo;apply mo_alloc;exact trivial) | refine we_seq ?_ | (refine wR ?_;try simp only [oS]))
 rintro v' L' ⟨rb,rfl,rfl⟩
 repeat (first | refine we_seq ?_ | (refine wR ?_;try simp only [oS]) | refine wo_nil ?_ | refine wM ?_ | refine wA ?_)
 refine wo_call (.cons rfl .nil) trivial (wrong_tr (fun v hv=>.inr (hfn v hv)) hrt.there.there.there (by omega)) ?_
 rintro v' L' x' ⟨⟨k,rfl,hk⟩,rfl,rfl⟩
 obtain rfl:k=0:=by
  rcases hk with ⟨_,h⟩ | ⟨_,h⟩
  ·obtain ⟨_,_,_,h⟩:=hfn _ h;cases h
  ·rw [h,List.length_map,if_neg (by omega),if_neg (by omega)]
 repeat (first | (apply wo_mo;apply mo_allocS;exact trivial) | refine wgtrF ?_ | refine wneqF ?_ | refine we_seq ?_ | (refine wR ?_;try simp only [oS]) | refine wo_nil ?_ | refine wM ?_ | refine wA ?_ | refine wE ?_ | refine wF ?_ | refine we_skip ?_)
 rintro v' L' ⟨wg,rfl,rfl⟩
 repeat (first | refine we_seq ?_ | (refine wR ?_;try simp only [oS]) | refine wo_nil ?_)
 refine wo_begin g s0 (wg:=wg) (R:=arr rb 0 [.slice none 0 0,.slice none 0 0]::g.U s0::all (ts.map Thr.M)::F) (fun h st=>st) ?_
 repeat (first | (apply wo_mo;apply mo_alloc;exact trivial))
 rintro v' L' ⟨pb,rfl,rfl⟩
 repeat (first | refine we_seq ?_ | (refine wR ?_;try simp only [oS]) | refine wo_nil ?_ | refine wM ?_ | refine wE ?_ | refine we_block ?_)
 refine we_star (vec 1 (.slice none 0 0) (ptrs [])::all (seatCs g [] [])::arr pb 0 [.slice none 0 0,.slice none 0 0,.slice none 0 0]::shpC wg 85 2::arr rb 0 [.slice none 0 0,.slice none 0 0]::g.U s0::all (ts.map Thr.M)::F) (fun h st=>vec_nil (star_shut (M:=[]) st)) ?_
 refine we_loopN (startInvP ts s0 wg pb rb (.slice oa order.length oc) (.slice ta ts.length tc) (shpC wg 85 2::F)) (fun i=>ts.length-i.1) (0,s0,[],[],.slice none 0 0) ⟨by omega,rfl,rfl⟩ ⟨rfl,rfl,rfl,rfl,rfl,rfl,rfl,rfl,trivial⟩ (.take (.there (.there (.there (.there (.there .here))))) (.take (.there (.there .here)) (.take .here (.take .here (.take (.there (.there .here)) (.take (.there .here) (.take .here .refl))))))) rfl ?_
 rintro ⟨j,s,qs,ids,ss⟩ ⟨hj,hids,hst⟩
 simp only at hj hids hst
 have hqs:qs.length=j:=by have:=startF_len (ts.take j) s0;rw [hst] at this;simpa [Nat.min_eq_left hj] using this
 have hsl:(seatSs ids qs).length=ids.length:=by simp [seatSs];omega
 simp only [startInvP]
 by_cases hlt:j<ts.length
 ·obtain ⟨tb,to,rfl,hrd⟩:=hrt.rds (by omega)
  have ht:ts[j]?=some ts[j]:=List.getElem?_eq_getElem hlt
  have hrj:=hrd j (ts[j].fv) (by simp [ht])
  have hTO:=hts _ (List.getElem_mem hlt)
  have hdrop:ts.drop j=ts[j]::ts.drop (j+1):=List.drop_eq_getElem_cons hlt
  rw [hdrop]
  refine we_star (g.U s::arr pb 0 [ss,.slice none 0 0,.slice none 0 0]::vec 1 ss (ptrs ids)::all (seatCs g ids qs)::ts[j].M::all ((ts.drop (j+1)).map Thr.M)::arr rb 0 [.slice none 0 0,.slice none 0 0]::shpC wg 85 2::F) (fun h st=>Ent.star (.take (.there (.there .here)) (.take (.there (.there .here)) (.take (.there (.there .here)) (.take (.there (.there .here)) (.take .here (.take .here .refl)))))) (star_head (((.there (.there (.there (.there .here)))):Has _ (all ((ts[j]::ts.drop (j+1)).map Thr.M)) _).star st))) ?_
  repeat (first | (apply wo_po;apply mo_index1;exact rfl;exact rfl;omega;exact gY) | (apply wo_po;apply mo_load;exact rfl;exact .there (.there (.there (.there (.there (.there (.there (.there hrj)))))));exact trivial) | refine wlssT ?_ | refine we_seq ?_ | (refine wR ?_;try simp only [oS]) | refine wo_nil ?_ | refine wA ?_ | refine wT ?_ | refine we_skip ?_ | refine we_block ?_)
  let MI:=seatMid wg pb rb j ts.length (.slice oa order.length oc) (.slice (some ⟨tb,to,none⟩) ts.length tc) ts[j].fv (gx g wg (seatSs ids qs) (some s) 16384 (seatSs ids qs).length) (g.U s::arr pb 0 [ss,.slice none 0 0,.slice none 0 0]::vec 1 ss (ptrs ids)::all (seatCs g ids qs)::ts[j].M::all ((ts.drop (j+1)).map Thr.M)::arr rb 0 [.slice none 0 0,.slice none 0 0]::shpC wg 85 2::F)
  refine we_join MI ?_ ?_
  ·refine we_draw (List.range' 0 6) (by kernel_rfl) ?_
   refine ap_fork3 (f:=1) (g:=2) (ordf:=[1,0,2,3,4,5]) (ordg:=[2,0,1,3,4,5]) (Rf:=[2,3,4,5]) (Rg:=[1,3,4,5]) (by kernel_rfl) (by kernel_rfl) (by kernel_rfl) (by kernel_rfl) (by kernel_rfl) (by kernel_rfl) (by kernel_rfl) (by kernel_rfl) (by kernel_rfl) ?_ ?_ ?_
   ·refine ap1_mo (Pd':=[]) rfl rfl rfl trivial (mo_makeChan (m:=0) (k:=.i64) rfl (by omega) (by omega)) (fun v L' _ p hp=>by cases hp) ?_
    rintro v' L' ⟨ct,rfl,rfl⟩
    refine ap_fork2 (f:=2) (ordf:=[0,2,1,3,4,5]) (Rf:=[3,4,5]) (by kernel_rfl) (by kernel_rfl) (by kernel_rfl) (by kernel_rfl) (by kernel_rfl) ?_ ?_
    ·refine ap1_mo (Pd':=[]) rfl rfl rfl trivial (mo_makeChan (m:=0) (k:=.i64) rfl (by omega) (by omega)) (fun v L' _ p hp=>by cases hp) ?_
     rintro v' L' ⟨ce,rfl,rfl⟩
     refine ap_loud rfl rfl rfl rfl rfl trivial (mo_makeChan (m:=0) (k:=.i64) rfl (by omega) (by omega)) ?_
     rintro v' L' ⟨cs,rfl,rfl⟩
     repeat (first | (apply ap_pure;exact rfl;exact rfl;exact trivial;intro L;apply mo_build (pv:=[(0,_),(1,_),(2,_)]);exact rfl;exact .cons rfl (.cons rfl (.cons rfl .nil));exact rfl))
     refine ap_loud rfl rfl rfl rfl rfl trivial (mo_box rfl) ?_
     rintro v' L' ⟨sb,rfl,rfl⟩
     repeat (first | refine aA ?_ | refine ap_end ?_)
     refine at_mid (B:=mT) (I:=MI) (sb,cs,ct,ce) trivial ?_ ?_ rfl
     exact ⟨rfl,rfl,rfl,rfl,rfl,rfl,rfl,rfl,rfl,rfl,trivial⟩
     repeat (first | exact Ent.refl | (apply Ent.take;(repeat (first | exact Has.here | apply Has.there))) | apply Ent.drop)
    ·refine ap1_mo (Pd':=[]) rfl rfl rfl trivial (mo_makeChan (m:=0) (k:=.i64) rfl (by omega) (by omega)) (fun v L' _ p hp=>by cases hp) ?_
     rintro v' L' ⟨cs,rfl,rfl⟩
     refine ap_loud rfl rfl rfl rfl rfl trivial (mo_makeChan (m:=0) (k:=.i64) rfl (by omega) (by omega)) ?_
     rintro v' L' ⟨ce,rfl,rfl⟩
     repeat (first | (apply ap_pure;exact rfl;exact rfl;exact trivial;intro L;apply mo_build (pv:=[(0,_),(1,_),(2,_)]);exact rfl;exact .cons rfl (.cons rfl (.cons rfl .nil));exact rfl))
     refine ap_loud rfl rfl rfl rfl rfl trivial (mo_box rfl) ?_
     rintro v' L' ⟨sb,rfl,rfl⟩
     repeat (first | refine aA ?_ | refine ap_end ?_)
     refine at_mid (B:=mT) (I:=MI) (sb,cs,ct,ce) trivial ?_ ?_ rfl
     exact ⟨rfl,rfl,rfl,rfl,rfl,rfl,rfl,rfl,rfl,rfl,trivial⟩
     repeat (first | exact Ent.refl | (apply Ent.take;(repeat (first | exact Has.here | apply Has.there))) | apply Ent.drop)
   ·refine ap1_mo (Pd':=[]) rfl rfl rfl trivial (mo_makeChan (m:=0) (k:=.i64) rfl (by omega) (by omega)) (fun v L' _ p hp=>by cases hp) ?_
    rintro v' L' ⟨ce,rfl,rfl⟩
    refine ap_fork2 (f:=2) (ordf:=[1,2,0,3,4,5]) (Rf:=[3,4,5]) (by kernel_rfl) (by kernel_rfl) (by kernel_rfl) (by kernel_rfl) (by kernel_rfl) ?_ ?_
    ·refine ap1_mo (Pd':=[]) rfl rfl rfl trivial (mo_makeChan (m:=0) (k:=.i64) rfl (by omega) (by omega)) (fun v L' _ p hp=>by cases hp) ?_
     rintro v' L' ⟨ct,rfl,rfl⟩
     refine ap_loud rfl rfl rfl rfl rfl trivial (mo_makeChan (m:=0) (k:=.i64) rfl (by omega) (by omega)) ?_
     rintro v' L' ⟨cs,rfl,rfl⟩
     repeat (first | (apply ap_pure;exact rfl;exact rfl;exact trivial;intro L;apply mo_build (pv:=[(0,_),(1,_),(2,_)]);exact rfl;exact .cons rfl (.cons rfl (.cons rfl .nil));exact rfl))
     refine ap_loud rfl rfl rfl rfl rfl trivial (mo_box rfl) ?_
     rintro v' L' ⟨sb,rfl,rfl⟩
     repeat (first | refine aA ?_ | refine ap_end ?_)
     refine at_mid (B:=mT) (I:=MI) (sb,cs,ct,ce) trivial ?_ ?_ rfl
     exact ⟨rfl,rfl,rfl,rfl,rfl,rfl,rfl,rfl,rfl,rfl,trivial⟩
     repeat (first | exact Ent.refl | (apply Ent.take;(repeat (first | exact Has.here | apply Has.there))) | apply Ent.drop)
    ·refine ap1_mo (Pd':=[]) rfl rfl rfl trivial (mo_makeChan (m:=0) (k:=.i64) rfl (by omega) (by omega)) (fun v L' _ p hp=>by cases hp) ?_
     rintro v' L' ⟨cs,rfl,rfl⟩
     refine ap_loud rfl rfl rfl rfl rfl trivial (mo_makeChan (m:=0) (k:=.i64) rfl (by omega) (by omega)) ?_
     rintro v' L' ⟨ct,rfl,rfl⟩
     repeat (first | (apply ap_pure;exact rfl;exact rfl;exact trivial;intro L;apply mo_build (pv:=[(0,_),(1,_),(2,_)]);exact rfl;exact .cons rfl (.cons rfl (.cons rfl .nil));exact rfl))
     refine ap_loud rfl rfl rfl rfl rfl trivial (mo_box rfl) ?_
     rintro v' L' ⟨sb,rfl,rfl⟩
     repeat (first | refine aA ?_ | refine ap_end ?_)
     refine at_mid (B:=mT) (I:=MI) (sb,cs,ct,ce) trivial ?_ ?_ rfl
     exact ⟨rfl,rfl,rfl,rfl,rfl,rfl,rfl,rfl,rfl,rfl,trivial⟩
     repeat (first | exact Ent.refl | (apply Ent.take;(repeat (first | exact Has.here | apply Has.there))) | apply Ent.drop)
   ·refine ap1_mo (Pd':=[]) rfl rfl rfl trivial (mo_makeChan (m:=0) (k:=.i64) rfl (by omega) (by omega)) (fun v L' _ p hp=>by cases hp) ?_
    rintro v' L' ⟨cs,rfl,rfl⟩
    refine ap_fork2 (f:=1) (ordf:=[2,1,0,3,4,5]) (Rf:=[3,4,5]) (by kernel_rfl) (by kernel_rfl) (by kernel_rfl) (by kernel_rfl) (by kernel_rfl) ?_ ?_
    ·refine ap1_mo (Pd':=[]) rfl rfl rfl trivial (mo_makeChan (m:=0) (k:=.i64) rfl (by omega) (by omega)) (fun v L' _ p hp=>by cases hp) ?_
     rintro v' L' ⟨ct,rfl,rfl⟩
     refine ap_loud rfl rfl rfl rfl rfl trivial (mo_makeChan (m:=0) (k:=.i64) rfl (by omega) (by omega)) ?_
     rintro v' L' ⟨ce,rfl,rfl⟩
     repeat (first | (apply ap_pure;exact rfl;exact rfl;exact trivial;intro L;apply mo_build (pv:=[(0,_),(1,_),(2,_)]);exact rfl;exact .cons rfl (.cons rfl (.cons rfl .nil));exact rfl))
     refine ap_loud rfl rfl rfl rfl rfl trivial (mo_box rfl) ?_
     rintro v' L' ⟨sb,rfl,rfl⟩
     repeat (first | refine aA ?_ | refine ap_end ?_)
     refine at_mid (B:=mT) (I:=MI) (sb,cs,ct,ce) trivial ?_ ?_ rfl
     exact ⟨rfl,rfl,rfl,rfl,rfl,rfl,rfl,rfl,rfl,rfl,trivial⟩
     repeat (first | exact Ent.refl | (apply Ent.take;(repeat (first | exact Has.here | apply Has.there))) | apply Ent.drop)
    ·refine ap1_mo (Pd':=[]) rfl rfl rfl trivial (mo_makeChan (m:=0) (k:=.i64) rfl (by omega) (by omega)) (fun v L' _ p hp=>by cases hp) ?_
     rintro v' L' ⟨ce,rfl,rfl⟩
     refine ap_loud rfl rfl rfl rfl rfl trivial (mo_makeChan (m:=0) (k:=.i64) rfl (by omega) (by omega)) ?_
     rintro v' L' ⟨ct,rfl,rfl⟩
     repeat (first | (apply ap_pure;exact rfl;exact rfl;exact trivial;intro L;apply mo_build (pv:=[(0,_),(1,_),(2,_)]);exact rfl;exact .cons rfl (.cons rfl (.cons rfl .nil));exact rfl))
     refine ap_loud rfl rfl rfl rfl rfl trivial (mo_box rfl) ?_
     rintro v' L' ⟨sb,rfl,rfl⟩
     repeat (first | refine aA ?_ | refine ap_end ?_)
     refine at_mid (B:=mT) (I:=MI) (sb,cs,ct,ce) trivial ?_ ?_ rfl
     exact ⟨rfl,rfl,rfl,rfl,rfl,rfl,rfl,rfl,rfl,rfl,trivial⟩
     repeat (first | exact Ent.refl | (apply Ent.take;(repeat (first | exact Has.here | apply Has.there))) | apply Ent.drop)
  ·rintro ⟨sb,cs,ct,ce⟩ _
   simp only [MI,seatMid]
   repeat (first | refine we_seq ?_ | (refine wR ?_;try simp only [oS]) | refine wM ?_)
   refine wo_call (.cons rfl (.cons rfl (.cons rfl .nil))) trivial (Tr.ent (L':=g.U s::ts[j].M::arr sb 0 [.chan (some ct),.chan (some ce),.chan (some cs),.int .u8 0,.int .i64 0,.bool false]::ob cs newChan::ob ct newChan::ob ce newChan::arr pb 0 [ss,.slice none 0 0,.slice none 0 0]::vec 1 ss (ptrs ids)::all (seatCs g ids qs)::all ((ts.drop (j+1)).map Thr.M)::arr rb 0 [.slice none 0 0,.slice none 0 0]::shpC wg 85 2::F) (.take (.there (.there (.there (.there .here)))) (.take (.there (.there (.there (.there (.there (.there (.there .here))))))) (.take .here (.take .here (.take .here (.take .here .refl)))))) (run_tr hTO (by have:=hS j hlt;rw [hst] at this;exact this) hfin (by rw [hsl];omega) (fun h st=>shp_of (.there (.there (.there (.there (.there .here))))) st))) ?_
   rintro v' L' x' ⟨rfl,rfl,rfl⟩
   refine wo_pure (of_has (.there (.there (.there (.there .here)))) (vec_shape (by omega))) ?_
   rintro ⟨sa,sn,sc,rfl,hsn,_⟩
   have hsn:sn=ids.length:=by simp [ptrs] at hsn;omega
   subst hsn
   repeat (first | (apply wo_mo;apply mo_buildSlice (sz:=1) (vs:=[.pointer (some ⟨sb,0,none⟩)]);exact rfl;exact .cons rfl .nil;exact rfl;(intro v hv;cases (List.mem_singleton.1 hv);exact rfl);omega;exact trivial) | (refine wR ?_;try simp only [oS]) | refine wo_nil ?_ | refine wM ?_ | refine wD ?_ | refine wL ?_)
   rintro v' L' ⟨nb,rfl,rfl⟩
   repeat (first | (apply wo_mo;apply mo_append (sz:=1) (new:=[.pointer (some ⟨sb,0,none⟩)]);exact rfl;exact rfl;exact rfl;exact rfl;exact (.there (.there (.there (.there (.there .here)))));exact rfl;exact .inr ⟨_,_,rfl,Rds.all .here⟩;(intro v hv;cases (List.mem_singleton.1 hv);exact rfl);(simp only [sliceLen];omega);exact trivial))
   rintro v' L' rfl
   refine wo_pure (of_has .here (vec_shape (by omega))) ?_
   rintro ⟨ua,un,uc,rfl,hun,_⟩
   repeat (first | refine wS ?_ | (refine wR ?_;try simp only [oS]) | refine wo_nil ?_ | refine wM ?_ | refine wD ?_ | refine wadd ?_)
   have hseats:seatCs g (ids++[⟨sb,cs,ct,ce⟩]) (qs++[(ts[j].ini s).2])=seatCs g ids qs++[seatC g ⟨sb,cs,ct,ce⟩ (ts[j].ini s).2]:=by
    unfold seatCs;rw [List.zipWith_append (by omega)];rfl
   have hseatS:seatSs (ids++[⟨sb,cs,ct,ce⟩]) (qs++[(ts[j].ini s).2])=seatSs ids qs++[seatS ⟨sb,cs,ct,ce⟩ (ts[j].ini s).2]:=by
    unfold seatSs;rw [List.zipWith_append (by omega)];rfl
   refine at_roundS (B:=mT) (I:=startInvP ts s0 wg pb rb (.slice oa order.length oc) (.slice (some ⟨tb,to,none⟩) ts.length tc) (shpC wg 85 2::F)) (R:=fun i'=>ts.length-i'.1<ts.length-j) (j+1,(ts[j].ini s).1,qs++[(ts[j].ini s).2],ids++[⟨sb,cs,ct,ce⟩],.slice ua un uc) (by show ts.length-(j+1)<ts.length-j;omega) ⟨by show j+1≤_;omega,by show (ids++[_]).length=j+1;simp;omega,?_⟩ ?_ (fun h st=>?_) ?_
   ·show startF (ts.take (j+1)) s0=_
    rw [List.take_succ_eq_append_getElem hlt,startF_snoc,hst]
   ·exact ⟨rfl,rfl,rfl,rfl,rfl,rfl,rfl,rfl,trivial⟩
   ·have s1:Star (seatR sb cs ct ce::arr sb 3 (lastC ((g.plan (ts[j].ini s).2).map (·.1)))::all (seatCs g ids qs)::g.U (ts[j].ini s).1::arr pb 0 [.slice ua un uc,.slice none 0 0,.slice none 0 0]::vec 1 (.slice ua un uc) (ptrs ids++[.pointer (some ⟨sb,0,none⟩)])::all ((ts.drop (j+1)).map Thr.M)::arr rb 0 [.slice none 0 0,.slice none 0 0]::shpC wg 85 2::F) h:=Ent.star (.take (.there (.there (.there .here))) (.take (.there (.there (.there .here))) (.take (.there (.there (.there (.there .here)))) (.take (.there (.there .here)) (.take (.there (.there .here)) (.take .here (.drop .refl))))))) st
    have s2:=star_push (c:=seatC g ⟨sb,cs,ct,ce⟩ (ts[j].ini s).2) (star_shut (M:=[_,_]) s1)
    rw [← hseats] at s2
    have e3:ptrs ids++[.pointer (some ⟨sb,0,none⟩)]=ptrs (ids++[⟨sb,cs,ct,ce⟩]):=by simp [ptrs]
    rw [e3] at s2
    exact Ent.star (.take (.there .here) (.take (.there .here) (.take (.there .here) (.take .here .refl)))) s2
   ·show gx g wg (seatSs (ids++[_]) (qs++[_])) _ _ _=_
    rw [hseatS]
    simp only [List.length_append,List.length_singleton]
    rfl
 ·obtain rfl:j=ts.length:=by omega
  rw [List.take_length] at hst
  rw [hsl]
  repeat (first | refine wlssF ?_ | refine we_seq ?_ | (refine wR ?_;try simp only [oS]) | refine wo_nil ?_ | refine wM ?_ | refine wE ?_ | refine wF ?_ | refine we_block ?_ | refine we_exit ?_)
  refine we_star (playL g pb ss (.slice none 0 0) (.slice none 0 0) ids (⟨s,qs,[]⟩:PS g) (arr rb 0 [.slice none 0 0,.slice none 0 0]::shpC wg 85 2::F)) (fun h st=>Ent.star (M:=playL g pb ss (.slice none 0 0) (.slice none 0 0) ids (⟨s,qs,[]⟩:PS g) (arr rb 0 [.slice none 0 0,.slice none 0 0]::shpC wg 85 2::F)) (.take (.there .here) (.take (.there .here) (.take (.there .here) (.take .here (.take .here (.drop .refl)))))) (vec_nil (sz:=3) st)) ?_
  refine we_loopN (ordInv (⟨s,qs,[]⟩:PS g) order ids wg pb rb (.slice oa order.length oc) ss (arr rb 0 [.slice none 0 0,.slice none 0 0]::shpC wg 85 2::F)) (fun i=>order.length-i.1) (0,.slice none 0 0) (Nat.zero_le _) ⟨rfl,rfl,rfl,rfl,rfl,rfl,trivial⟩ .refl rfl ?_
  have hI1:I (⟨s,qs,[]⟩:PS g):=by rw [hst] at hI0;exact hI0
  rintro ⟨i,tsv⟩ hi
  replace hi:i≤order.length:=hi
  have hpl:ids.length=(ordF (⟨s,qs,[]⟩:PS g) (order.take i)).qs.length:=by rw [ordF_len];show ids.length=qs.length;omega
  have hple:=ordF_le (order.take i) (⟨s,qs,[]⟩:PS g) (Nat.zero_le _)
  simp only [ordInv]
  by_cases hlt2:i<order.length
  ·obtain ⟨ob,oo,rfl,hrd⟩:=hro.rds (by omega)
   have hri:=hrd i (.int .i64 order[i]) (by rw [List.getElem?_map,List.getElem?_eq_getElem hlt2];rfl)
   repeat (first | (apply wo_po;apply mo_index1;exact rfl;exact rfl;omega;exact gY) | (apply wo_po;apply mo_load;exact rfl;exact .there (.there (.there (.there (.there (.there (.there hri))))));exact trivial) | refine wlssT ?_ | refine we_seq ?_ | (refine wR ?_;try simp only [oS]) | refine wo_nil ?_ | refine wM ?_ | refine wA ?_ | refine wT ?_ | refine we_skip ?_ | refine we_block ?_)
   refine wo_call (.cons rfl (.cons rfl .nil)) trivial (takes_tr hpl hple (hIo _ (hIord _ _ hI1))) ?_
   rintro v' L' x' ⟨ts',rfl,rfl,rfl⟩
   repeat (first | (refine wR ?_;try simp only [oS]) | refine wo_nil ?_ | refine wM ?_ | refine wadd ?_)
   have htk:(takeF (ordF (⟨s,qs,[]⟩:PS g) (order.take i)) order[i]).1=ordF (⟨s,qs,[]⟩:PS g) (order.take (i+1)):=by
    rw [List.take_succ_eq_append_getElem hlt2,ordF_snoc]
   rw [htk]
   refine at_round (B:=mT) (I:=ordInv (⟨s,qs,[]⟩:PS g) order ids wg pb rb (.slice (some ⟨ob,oo,none⟩) order.length oc) ss (arr rb 0 [.slice none 0 0,.slice none 0 0]::shpC wg 85 2::F)) (R:=fun i'=>order.length-i'.1<order.length-i) (i+1,ts') (by show order.length-(i+1)<order.length-i;omega) (show i+1≤order.length by omega) ?_ .refl rfl
   exact ⟨rfl,rfl,rfl,rfl,rfl,rfl,trivial⟩
  ·obtain rfl:i=order.length:=by omega
   rw [List.take_length] at hpl hple ⊢
   obtain ⟨p1,hp1⟩:∃ p1,ordF (⟨s,qs,[]⟩:PS g) order=p1:=⟨_,rfl⟩
   rw [hp1] at hpl hple ⊢
   repeat (first | refine wlssF ?_ | refine we_seq ?_ | (refine wR ?_;try simp only [oS]) | refine wo_nil ?_ | refine wA ?_ | refine wF ?_ | refine we_block ?_ | refine we_exit ?_)
   refine we_loopN (restInv I p1 ids wg pb rb ss (arr rb 0 [.slice none 0 0,.slice none 0 0]::shpC wg 85 2::F)) (fun i=>if i.2.2.2=true then i.1+1 else 0) (16385,p1,tsv,true) ⟨by rw [← hp1];exact hIord _ _ hI1,rfl,hple,by simp only [if_true];exact ⟨trivial,by omega⟩⟩ ⟨rfl,rfl,rfl,rfl,trivial⟩ .refl rfl ?_
   rintro ⟨n,p,tv2,more⟩ ⟨hIp,hq1,hq2,hq3⟩
   simp only at hIp hq1 hq2 hq3
   simp only [restInv]
   cases more with
   | true =>
    simp only [if_true] at hq3
    obtain ⟨n,rfl⟩:∃ m,n=m+1:=⟨n-1,by omega⟩
    have hpq:p.qs.length=ids.length:=by omega
    refine we_pure (of_has (.there (.there .here)) (vec_shape (by omega))) ?_
    rintro ⟨sa,sn,sc,rfl,hsn,_⟩
    have hsn:sn=ids.length:=by simp [ptrs] at hsn;omega
    subst hsn
    repeat (first | refine we_seq ?_ | (refine wR ?_;try simp only [oS]) | refine wo_nil ?_ | refine wM ?_ | refine wA ?_ | refine wD ?_ | refine wL ?_ | refine wE ?_ | refine wT ?_ | refine we_skip ?_ | refine we_block ?_)
    refine we_loopN (rndInvP p ids wg pb rb (.slice sa ids.length sc) (arr rb 0 [.slice none 0 0,.slice none 0 0]::shpC wg 85 2::F)) (fun i=>ids.length-i.1) (0,tv2) (Nat.zero_le _) ⟨rfl,rfl,rfl,rfl,rfl,rfl,trivial⟩ .refl rfl ?_
    rintro ⟨k,tv3⟩ hk
    replace hk:k≤ids.length:=hk
    simp only [rndInvP]
    by_cases hlt3:k<ids.length
    ·repeat (first | refine wlssT ?_ | refine we_seq ?_ | (refine wR ?_;try simp only [oS]) | refine wo_nil ?_ | refine wM ?_ | refine wA ?_ | refine wT ?_ | refine we_skip ?_ | refine we_block ?_)
     refine wo_call (.cons rfl (.cons rfl .nil)) trivial (takes_tr (by rw [roundF_len];omega) (roundF_le hq2 k) (hIo _ (hIrnd _ _ hIp))) ?_
     rintro v' L' x' ⟨ts',rfl,rfl,rfl⟩
     have hnx:roundF p (k+1)=((takeF (roundF p k).1 k).1,(takeF (roundF p k).1 k).2||(roundF p k).2):=rfl
     have hr1:(roundF p (k+1)).1=(takeF (roundF p k).1 k).1:=rfl
     obtain ⟨b,hb⟩:∃ b,(takeF (roundF p k).1 k).2=b:=⟨_,rfl⟩
     rw [hb,← hr1]
     cases b with
     | true =>
      repeat (first | (refine wR ?_;try simp only [oS]) | refine wo_nil ?_ | refine wM ?_ | refine wA ?_ | (apply wo_no;exact rfl) | refine wK ?_ | refine wadd ?_)
      refine at_round (B:=mT) (I:=rndInvP p ids wg pb rb (.slice sa ids.length sc) (arr rb 0 [.slice none 0 0,.slice none 0 0]::shpC wg 85 2::F)) (R:=fun i'=>ids.length-i'.1<ids.length-k) (k+1,ts') (by show ids.length-(k+1)<ids.length-k;omega) (show k+1≤ids.length by omega) ?_ .refl rfl
      exact ⟨rfl,rfl,rfl,by rw [hnx,hb];rfl,rfl,rfl,trivial⟩
     | false =>
      repeat (first | (refine wR ?_;try simp only [oS]) | refine wo_nil ?_ | refine wM ?_ | refine wA ?_ | refine wJ ?_ | refine wadd ?_)
      refine at_round (B:=mT) (I:=rndInvP p ids wg pb rb (.slice sa ids.length sc) (arr rb 0 [.slice none 0 0,.slice none 0 0]::shpC wg 85 2::F)) (R:=fun i'=>ids.length-i'.1<ids.length-k) (k+1,ts') (by show ids.length-(k+1)<ids.length-k;omega) (show k+1≤ids.length by omega) ?_ .refl rfl
      exact ⟨rfl,rfl,rfl,by rw [hnx,hb];rfl,rfl,rfl,trivial⟩
    ·obtain rfl:k=ids.length:=by omega
     repeat (first | refine wlssF ?_ | refine we_seq ?_ | (refine wR ?_;try simp only [oS]) | refine wo_nil ?_ | refine wF ?_ | refine we_exit ?_)
     have hg:=roundF_grow p ids.length
     have hle3:=roundF_le hq2 ids.length
     have hrest:restF (n+1) p=if (roundF p ids.length).2=true then restF n (roundF p ids.length).1 else (roundF p ids.length).1:=by
      show (if (roundF p p.qs.length).2=true then restF n (roundF p p.qs.length).1 else (roundF p p.qs.length).1)=_
      rw [hpq]
     refine at_round (B:=mT) (I:=restInv I p1 ids wg pb rb (.slice sa ids.length sc) (arr rb 0 [.slice none 0 0,.slice none 0 0]::shpC wg 85 2::F)) (R:=fun i'=>(if i'.2.2.2=true then i'.1+1 else 0)<(if true=true then (n+1)+1 else 0)) (n,(roundF p ids.length).1,tv3,(roundF p ids.length).2) ?_ ⟨hIrnd _ _ hIp,by show (roundF p ids.length).1.qs.length=_;rw [roundF_len];exact hq1,hle3,?_⟩ ?_ .refl rfl
     ·show (if (roundF p ids.length).2=true then n+1 else 0)<(if true=true then (n+1)+1 else 0)
      simp only [if_true]
      split <;> omega
     ·simp only
      rw [hrest] at hq3
      cases hb:(roundF p ids.length).2 with
      | true=>rw [hb] at hq3 hg;simp only [if_true] at hq3 hg ⊢;exact ⟨hq3.1,by omega⟩
      | false=>rw [hb] at hq3;simpa using hq3.1
     ·exact ⟨rfl,rfl,rfl,rfl,trivial⟩
   | false =>
    simp only [Bool.false_eq_true,if_false] at hq3
    have hplay:playF ts s0 order=p:=by rw [hq3,← hp1];unfold playF;rw [hst]
    rw [hplay] at hQ
    have hpq:p.qs.length=ids.length:=by omega
    refine we_pure (of_has (.there (.there .here)) (vec_shape (by omega))) ?_
    rintro ⟨sa,sn,sc,rfl,hsn,_,hnz,hy⟩
    have hsn:sn=ids.length:=by simp [ptrs] at hsn;omega
    subst hsn
    cases sa with
    | none=>have:=hnz rfl;omega
    | some ad =>
    obtain ⟨sb,so,sp⟩:=ad
    have:=hy _ rfl
    simp only [Addr.mk.injEq,true_and] at this
    subst this
    repeat (first | refine we_seq ?_ | (refine wR ?_;try simp only [oS]) | refine wo_nil ?_ | refine wM ?_ | refine wD ?_ | refine wL ?_ | refine wE ?_ | refine wF ?_ | refine we_block ?_ | refine we_exit ?_)
    refine we_star (vec 1 (.slice none 0 0) (cutC (cutN g p.qs 0))::arr pb 0 [.slice (some ⟨sb,so,none⟩) ids.length sc,tv2,.slice none 0 0]::vec 1 (.slice (some ⟨sb,so,none⟩) ids.length sc) (ptrs ids)::vec 3 tv2 (trCP p.tr)::all (seatCs g ids p.qs)::g.U p.s::arr rb 0 [.slice none 0 0,.slice none 0 0]::shpC wg 85 2::F) (fun h st=>vec_nil (Ent.star (.take (.there .here) (.take (.there .here) (.take (.there .here) (.take (.there .here) (.take .here .refl))))) st)) ?_
    refine we_loopN (cutInv p ids wg pb rb (.slice (some ⟨sb,so,none⟩) ids.length sc) tv2 (arr rb 0 [.slice none 0 0,.slice none 0 0]::shpC wg 85 2::F)) (fun i=>ids.length-i.1) (0,.slice none 0 0) (Nat.zero_le _) ⟨rfl,rfl,rfl,rfl,rfl,rfl,trivial⟩ .refl (by simp only [cutInv];rw [shutS_zero]) ?_
    rintro ⟨k,cv⟩ hk
    replace hk:k≤ids.length:=hk
    simp only [cutInv]
    by_cases hlt3:k<ids.length
    ·have hi:ids[k]?=some ids[k]:=List.getElem?_eq_getElem hlt3
     have hq:p.qs[k]?=some (p.qs[k]'(by omega)):=List.getElem?_eq_getElem _
     obtain ⟨i,hie⟩:∃ i,ids[k]=i:=⟨_,rfl⟩
     obtain ⟨q,hqe⟩:∃ q,(p.qs[k]'(by omega))=q:=⟨_,rfl⟩
     rw [hie] at hi
     rw [hqe] at hq
     let er:=all ((seatCs g ids p.qs).eraseIdx k)
     refine we_star (seatR i.sb i.says i.turn i.fin::arr i.sb 3 (lastQ g q)::er::vec 1 cv (cutC (cutN g p.qs k))::arr pb 0 [.slice (some ⟨sb,so,none⟩) ids.length sc,tv2,cv]::vec 1 (.slice (some ⟨sb,so,none⟩) ids.length sc) (ptrs ids)::vec 3 tv2 (trCP p.tr)::g.U p.s::arr rb 0 [.slice none 0 0,.slice none 0 0]::shpC wg 85 2::F) (fun h st=>seat_pick hi hq (((.there (.there (.there (.there .here)))):Has (_::_::_::_::all (seatCs g ids p.qs)::_) _ _).star st)) ?_
     have hback:∀ {cv':Value} {cl:List Value} h,Star (seatR i.sb i.says i.turn i.fin::arr i.sb 3 (lastQ g q)::er::vec 1 cv' cl::arr pb 0 [.slice (some ⟨sb,so,none⟩) ids.length sc,tv2,cv']::vec 1 (.slice (some ⟨sb,so,none⟩) ids.length sc) (ptrs ids)::vec 3 tv2 (trCP p.tr)::g.U p.s::arr rb 0 [.slice none 0 0,.slice none 0 0]::shpC wg 85 2::F) h →
       Star (vec 1 cv' cl::arr pb 0 [.slice (some ⟨sb,so,none⟩) ids.length sc,tv2,cv']::vec 1 (.slice (some ⟨sb,so,none⟩) ids.length sc) (ptrs ids)::vec 3 tv2 (trCP p.tr)::all (seatCs g ids p.qs)::g.U p.s::arr rb 0 [.slice none 0 0,.slice none 0 0]::shpC wg 85 2::F) h:=fun h st=>by
      have s1:=seat_put (q':=q) hi hq st
      rw [set_same hq] at s1
      exact Ent.star (.take (.there .here) (.take (.there .here) (.take (.there .here) (.take (.there .here) (.take .here .refl))))) s1
     have hcl:(cutN g p.qs k).length≤k:=by have:=List.length_filter_le (fun k=>((p.qs[k]?).bind g.plan).isSome) (List.range k);rw [List.length_range] at this;exact this
     have hget:(shutS ids p.qs k)[k]?=some (⟨i.says,i.turn,i.fin,.said q⟩:Seat g.σ g.θ):=by rw [shutS_get hi hq,if_neg (by omega)];rfl
     have hsl2:ids.length=(shutS ids p.qs k).length:=(shutS_len hpq.symm).symm
     have rs:∀ {a b c d e:HProp} {M:List HProp},Rd (a::b::c::d::e::vec 1 (.slice (some ⟨sb,so,none⟩) ids.length sc) (ptrs ids)::M) sb (so+k) (.pointer (some ⟨i.sb,0,none⟩)):=rd_vec (cs:=ptrs ids) (.there (.there (.there (.there (.there .here))))) (by simp [ptrs,hi])
     refine we_pure (of_has (.there (.there (.there .here))) (vec_shape (by omega))) ?_
     rintro ⟨ca,cn,cc,rfl,hcn,_⟩
     have hcn:cn=(cutN g p.qs k).length:=by simp [cutC] at hcn;omega
     subst hcn
     cases hpl2:g.plan q with
     | none =>
      have hlq:lastQ g q=[.int .u8 0,.int .i64 0,.bool true]:=by unfold lastQ;rw [hpl2];rfl
      have hcut:cutN g p.qs (k+1)=cutN g p.qs k:=by rw [cutN_succ,hq];simp [hpl2]
      rw [hlq] at hback ⊢
      have rl:∀ {a:HProp} {M:List HProp},Rd (a::arr i.sb 3 [.int .u8 0,.int .i64 0,.bool true]::M) i.sb 5 (.bool true):=.there (Rd.row (k:=2) rfl rfl)
      have re:∀ {M:List HProp},Rd (seatR i.sb i.says i.turn i.fin::M) i.sb 1 (.chan (some i.fin)):=Rd.fro (k:=1) rfl rfl
      repeat (first | (apply wo_po;apply mo_index1;exact rfl;exact rfl;omega;exact gY) | (apply wo_po;apply mo_load;exact rfl;(first | exact rs | exact rl | exact re);exact trivial) | refine wlssT ?_ | refine we_seq ?_ | (refine wR ?_;try simp only [oS]) | refine wo_nil ?_ | refine wM ?_ | refine wA ?_ | refine wN ?_ | refine wD ?_ | (apply wo_po;apply mo_not;exact rfl;exact gY) | refine wT ?_ | refine wF ?_ | refine we_skip ?_ | refine we_block ?_)
      refine wo_shut (X:=⟨g,wg,shutS ids p.qs k,some p.s,16384-p.tr.length,ids.length,false,.play⟩) (j:=k) (c:=⟨i.says,i.turn,i.fin,.said q⟩) (q0:=q) rfl rfl rfl hsl2 rfl hget rfl trivial (by decide) ?_
      repeat (first | (refine wR ?_;try simp only [oS]) | refine wo_nil ?_ | refine wM ?_ | refine wadd ?_)
      refine at_roundS (B:=mT) (I:=cutInv p ids wg pb rb (.slice (some ⟨sb,so,none⟩) ids.length sc) tv2 (arr rb 0 [.slice none 0 0,.slice none 0 0]::shpC wg 85 2::F)) (R:=fun i'=>ids.length-i'.1<ids.length-k) (k+1,.slice ca (cutN g p.qs k).length cc) (by show ids.length-(k+1)<ids.length-k;omega) (show k+1≤ids.length by omega) ?_ (fun h st=>?_) ?_
      ·exact ⟨rfl,rfl,rfl,rfl,rfl,rfl,trivial⟩
      ·show Star (vec 1 _ (cutC (cutN g p.qs (k+1)))::_) h
       rw [hcut]
       exact hback h st
      ·simp only [cutInv]
       rw [← shutS_succ hi hq]
     | some mf =>
      obtain ⟨m,f⟩:=mf
      have hlq:lastQ g q=[.int .u8 m.1,.int .i64 m.2,.bool false]:=by unfold lastQ;rw [hpl2];rfl
      have hcut:cutN g p.qs (k+1)=cutN g p.qs k++[k]:=by rw [cutN_succ,hq];simp [hpl2]
      rw [hlq] at hback ⊢
      have rl:∀ {a:HProp} {M:List HProp},Rd (a::arr i.sb 3 [.int .u8 m.1,.int .i64 m.2,.bool false]::M) i.sb 5 (.bool false):=.there (Rd.row (k:=2) rfl rfl)
      have re:∀ {a b:HProp} {M:List HProp},Rd (a::b::seatR i.sb i.says i.turn i.fin::M) i.sb 1 (.chan (some i.fin)):=.there (.there (Rd.fro (k:=1) rfl rfl))
      repeat (first | (apply wo_po;apply mo_index1;exact rfl;exact rfl;omega;exact gY) | (apply wo_po;apply mo_load;exact rfl;(first | exact rs | exact rl);exact trivial) | (apply wo_mo;apply mo_buildSlice (sz:=1) (vs:=[.int .i64 (k:Nat)]);exact rfl;exact .cons rfl .nil;exact rfl;(intro v hv;cases (List.mem_singleton.1 hv);exact rfl);omega;exact trivial) | refine wlssT ?_ | refine we_seq ?_ | (refine wR ?_;try simp only [oS]) | refine wo_nil ?_ | refine wM ?_ | refine wA ?_ | refine wN ?_ | refine wD ?_ | (apply wo_po;apply mo_not;exact rfl;exact gY) | refine wL ?_ | refine wT ?_ | refine we_skip ?_ | refine we_block ?_)
      rintro v' L' ⟨nb,rfl,rfl⟩
      repeat (first | (apply wo_mo;apply mo_append (sz:=1) (new:=[.int .i64 (k:Nat)]);exact rfl;exact rfl;exact rfl;exact rfl;exact (.there (.there (.there (.there .here))));exact rfl;exact .inr ⟨_,_,rfl,Rds.all .here⟩;(intro v hv;cases (List.mem_singleton.1 hv);exact rfl);(simp only [sliceLen];omega);exact trivial))
      rintro v' L' rfl
      refine wo_pure (of_has .here (vec_shape (by omega))) ?_
      rintro ⟨ua,un,uc,rfl,hun,_⟩
      repeat (first | refine wS ?_ | (apply wo_po;apply mo_load;exact rfl;exact re;exact trivial) | (refine wR ?_;try simp only [oS]) | refine wo_nil ?_ | refine wM ?_ | refine wN ?_ | refine wD ?_)
      refine wo_shut (X:=⟨g,wg,shutS ids p.qs k,some p.s,16384-p.tr.length,ids.length,false,.play⟩) (j:=k) (c:=⟨i.says,i.turn,i.fin,.said q⟩) (q0:=q) rfl rfl rfl hsl2 rfl hget rfl trivial (by decide) ?_
      repeat (first | (refine wR ?_;try simp only [oS]) | refine wo_nil ?_ | refine wM ?_ | refine wadd ?_)
      refine at_roundS (B:=mT) (I:=cutInv p ids wg pb rb (.slice (some ⟨sb,so,none⟩) ids.length sc) tv2 (arr rb 0 [.slice none 0 0,.slice none 0 0]::shpC wg 85 2::F)) (R:=fun i'=>ids.length-i'.1<ids.length-k) (k+1,.slice ua un uc) (by show ids.length-(k+1)<ids.length-k;omega) (show k+1≤ids.length by omega) ?_ (fun h st=>?_) ?_
      ·exact ⟨rfl,rfl,rfl,rfl,rfl,rfl,trivial⟩
      ·show Star (vec 1 _ (cutC (cutN g p.qs (k+1)))::_) h
       have e4:cutC (cutN g p.qs (k+1))=cutC (cutN g p.qs k)++[.int .i64 (k:Nat)]:=by rw [hcut];simp [cutC]
       rw [e4]
       exact hback h (Ent.star (.take (.there (.there .here)) (.take (.there (.there .here)) (.take (.there (.there .here)) (.take .here (.drop .refl))))) st)
      ·simp only [cutInv]
       rw [← shutS_succ hi hq]
    ·obtain rfl:k=ids.length:=by omega
     repeat (first | refine wlssF ?_ | refine we_seq ?_ | (refine wR ?_;try simp only [oS]) | refine wo_nil ?_ | refine wF ?_ | refine we_exit ?_)
     refine wo_call (.cons rfl .nil) trivial (wgWait_tr (X:=⟨g,wg,shutS ids p.qs ids.length,some p.s,16384-p.tr.length,ids.length,false,.play⟩) rfl (by show ids.length<1000;omega) (shutS_len hpq.symm).symm (shutS_closed hpq.symm) rfl (fun h st=>shp_of (.there (.there (.there (.there (.there (.there (.there .here))))))) st)) ?_
     rintro v' L' x' ⟨rfl,rfl,rfl⟩
     rw [show (GX.seats ⟨g,wg,shutS ids p.qs ids.length,some p.s,16384-p.tr.length,ids.length,false,.play⟩).map Seat.fins=p.qs.map g.Fin from shutS_all hpq.symm]
     repeat (first | (apply wo_po;apply mo_loadA (vs:=[tv2,cv]);exact rfl;exact rfl;exact Rds.row (k:=1) (.there (.there .here)) (by intro i v hv;match i,hv with | 0,hv=>exact hv | 1,hv=>exact hv);exact trivial) | refine we_seq ?_ | (refine wR ?_;try simp only [oS]) | refine wo_nil ?_ | refine wD ?_)
     refine wo_pure (of_has (.there .here) (vec_shape (by omega))) ?_
     rintro ⟨ca,cn,cc,rfl,_⟩
     refine wo_pure (of_has (.there (.there (.there (.there .here)))) (vec_shape (by omega))) ?_
     rintro ⟨ta2,tn2,tc2,rfl,_⟩
     repeat (first | (apply wo_pm;apply mo_storeA (c:=0) (k:=0) (a:=0) (vs:=[.slice none 0 0,.slice none 0 0]);exact rfl;exact rfl;exact rfl;(intro w hw;simp [Value.cells] at hw;rcases hw with rfl | rfl <;> rfl);exact rfl;exact Nat.le_refl 2;exact (.there (.there (.there (.there (.there (.there (.there .here)))))));exact trivial) | refine wo_nil ?_ | refine wA ?_ | refine we_ret ?_)
     refine at_leaveM (rs:=[.cell 4 49,.tmp 5]) Try.func13 Try.results13 hQ (.inl rfl) (.cons (.cell (vs:=[.slice ta2 tn2 tc2,.slice ca cn cc]) rfl rfl (Rds.all (.there (.there (.there (.there (.there (.there (.there .here))))))))) (.cons (.tmp rfl) .nil)) ?_
     refine ⟨_,_,rfl,rfl,fun h st=>?_⟩
     rw [← hids]
     exact Ent.star (.take (.there (.there (.there (.there .here)))) (.take (.there .here) (.take (.there (.there (.there (.there .here)))) (.take .here (.drop (.drop (.drop (.drop (.drop .refl))))))))) st
end
end
end Go.Proofs.Ytaeegnfbofagcaa
namespace Go.Proofs.Ytaeegnfbofagcaa
open Go Go.PB
section
section
variable {g:Game}
theorem ordF_inv {I:PS g→Prop} (hs:∀ p k,I p→I (takeF p k).1):∀ (l:List Int) (p:PS g),I p→I (ordF p l)
 | [],p,h=>h
 | k::l,p,h=>ordF_inv hs l _ (hs p k h)
theorem roundF_inv {I:PS g→Prop} (hs:∀ p k,I p→I (takeF p k).1) {p:PS g} (h:I p):∀ n,I (roundF p n).1
 | 0=>h
 | n+1=>hs _ _ (roundF_inv hs h n)
theorem restF_inv {I:PS g→Prop} (hs:∀ p k,I p→I (takeF p k).1):∀ (n:Nat) (p:PS g),I p→I (restF n p)
 | 0,p,h=>h
 | n+1,p,h=>by
  unfold restF
  split
  ·exact restF_inv hs n _ (roundF_inv hs h _)
  ·exact roundF_inv hs h _
theorem playF_inv {I:PS g→Prop} (hs:∀ p k,I p→I (takeF p k).1) {ts:List (Thr g)} {s:g.σ} {o:List Int} (h0:I ⟨(startF ts s).1,(startF ts s).2,[]⟩):I (playF ts s o) :=
 restF_inv hs _ _ (ordF_inv hs _ _ h0)
theorem roundF_no {p:PS g}:∀ {n:Nat},(roundF p n).2=false→(roundF p n).1=p∧∀ k:Nat,k<n→takeF p k=(p,false)
 | 0,_=>⟨rfl,fun k h=>by omega⟩
 | n+1,h=>by
  have h':((takeF (roundF p n).1 n).2||(roundF p n).2)=false:=h
  rw [Bool.or_eq_false_iff] at h'
  obtain ⟨h1,h2⟩:=roundF_no h'.2
  rw [h1] at h'
  have h3:takeF p n=(p,false):=by
   rcases takeF_cases p n with e | ⟨_,_,_,_,_,_,_,_,e⟩
   ·exact e
   ·rw [e] at h';cases h'.1
  refine ⟨?_,fun k hk=>?_⟩
  ·show (takeF (roundF p n).1 n).1=p
   rw [h1,h3]
  ·by_cases e:k=n
   ·subst e;exact h3
   ·exact h2 k (by omega)
theorem take_stuck {p:PS g} {k:Nat} {q:g.θ} (hq:p.qs[k]?=some q) (h:takeF p k=(p,false)):g.plan q=none∨p.tr.length=16384:=by
 cases hp:g.plan q with
 | none=>exact .inl rfl
 | some mf =>
  obtain ⟨m,f⟩:=mf
  right
  by_cases htr:p.tr.length=16384
  ·exact htr
  ·unfold takeF at h
   rw [if_neg (by omega),Int.toNat_natCast,hq] at h
   simp only [hp,if_neg htr] at h
   have:=congrArg Prod.snd h
   cases this
theorem restF_done:∀ (n:Nat) (p:PS g),p.tr.length≤16384→16384<p.tr.length+n→∀ (k:Nat) q,(restF n p).qs[k]?=some q→g.plan q=none∨(restF n p).tr.length=16384
 | 0,p,h1,h2=>by omega
 | n+1,p,h1,h2=>by
  intro k q hq
  unfold restF at hq ⊢
  have hg:=roundF_grow p p.qs.length
  have hle:=roundF_le h1 p.qs.length
  split at hq
  ·rename_i hm
   rw [if_pos hm]
   rw [if_pos hm] at hg
   exact restF_done n _ hle (by omega) k q hq
  ·rename_i hm
   rw [if_neg hm]
   obtain ⟨e,hk⟩:=roundF_no (Bool.not_eq_true _▸hm:(roundF p p.qs.length).2=false)
   rw [e] at hq ⊢
   exact take_stuck hq (hk k (List.getElem?_eq_some_iff.1 hq).1)
theorem playF_done {ts:List (Thr g)} {s:g.σ} {o:List Int} {k:Nat} {q:g.θ} (hq:(playF ts s o).qs[k]?=some q):g.plan q=none∨(playF ts s o).tr.length=16384 :=
 restF_done 16385 _ (ordF_le _ _ (Nat.zero_le _)) (by omega) k q hq
theorem cutN_nil {qs:List g.θ} {n:Nat} (h:∀ (k:Nat) q,qs[k]?=some q→g.plan q=none):cutN g qs n=[]:=by
 unfold cutN
 rw [List.filter_eq_nil_iff]
 intro k _
 cases hq:qs[k]? with
 | none=>simp
 | some q=>simp [h k q hq]
end
def sumN (l:List Nat):Nat:=l.foldr (·+·) 0
theorem sumN_set:∀ {l:List Nat} {k a b:Nat},l[k]?=some a→sumN (l.set k b)+a=sumN l+b
 | [],_,_,_,h=>by simp at h
 | x::l,0,a,b,h=>by simp at h;subst h;simp only [List.set_cons_zero,sumN,List.foldr_cons];omega
 | x::l,k+1,a,b,h=>by
  have:=sumN_set (l:=l) (k:=k) (a:=a) (b:=b) (by simpa using h)
  simp only [List.set_cons_succ,sumN,List.foldr_cons] at this ⊢
  omega
end
end Go.Proofs.Ytaeegnfbofagcaa
namespace Go.PB.Mach
section
structure In where
 op:Nat
 on:Nat:=0
 a:Nat:=0
 b:Nat:=0
 c:Nat:=0
 d:Nat:=0
 n:Nat:=0
structure Cl where
 code:List In
 data:List Nat:=[]
structure Wd where
 words:List (List Nat)
 nl:Nat
structure Th where
 calls:List Cl
 call:Nat:=0
 pc:Nat:=0
 r:Nat→Nat:=fun _=>0
 ans:List (Bool × List Nat):=[]
 over:Bool:=false
def fin:In:={ op:=23 }
def Th.cl (t:Th):Cl:=t.calls.getD t.call { code:=[] }
def Th.next (t:Th):In:=t.cl.code.getD t.pc fin
def Th.put (t:Th) (i v:Nat):Th:={ t with r:=upd t.r i (v%18446744073709551616) }
def Th.tell (t:Th) (v:Nat):Th:={ t with ans:=t.ans.modify t.call fun y=>(y.1,y.2++[v]) }
structure Wd.ok (w:Wd):Prop where
 n:w.words.length<1000000
 nl:w.nl<1000000
 len:∀ l∈w.words,l.length<1000000
 lt:∀ l∈w.words,∀ v∈l,v<18446744073709551616
def own (t0:Th) (x:In):Th :=
 let t:={ t0 with pc:=t0.pc+1 }
 match x.op with
 | 6=>t.put x.a x.n
 | 7=>t.put x.a (t.r x.b)
 | 8=>t.put x.a (t.r x.b+t.r x.c+x.n)
 | 9=>t.put x.a (t.r x.b+18446744073709551616-t.r x.c)
 | 10=>t.put x.a (t.r x.b*t.r x.c)
 | 11=>t.put x.a (if t.r x.c=0 then 0 else t.r x.b/t.r x.c)
 | 12=>t.put x.a (t.r x.b &&& t.r x.c)
 | 13=>t.put x.a (t.r x.b ||| t.r x.c)
 | 14=>t.put x.a (t.r x.b*2^x.n)
 | 15=>t.put x.a (t.r x.b/2^x.n)
 | 16=>t.put x.a (max (t.r x.b) (t.r x.c))
 | 17=>t.put x.a (t.cl.data.getD ((t.r x.b+x.n)%18446744073709551616) 0)
 | 18=>{ t with pc:=x.n }
 | 19=>if t.r x.a=t.r x.b then { t with pc:=x.n } else t
 | 20=>if t.r x.a<t.r x.b then { t with pc:=x.n } else t
 | 21=>if 9223372036854775808≤t.r x.a then { t with pc:=x.n } else t
 | 22=>t.tell (t.r x.a)
 | _=>t
def told (op:Nat):Bool:=1≤op&&op≤5
def Th.begun (t:Th):Th:=if t.ans.length=t.call then { t with ans:=t.ans++[(false,[])] } else t
def Th.done (t:Th):Th:={ t with ans:=t.ans.modify t.call fun y=>(true,y.2),call:=t.call+1,pc:=0,r:=fun _=>0 }
def onF:Nat→Th→Option Th
 | 0,_=>none
 | f+1,t =>
  if t.over=true then some t
  else if t.calls.length≤t.call then some { t with over:=true }
  else if told t.begun.next.op=true then some t.begun
  else if t.begun.next.op=23 then onF f t.begun.done
  else onF f (own t.begun t.begun.next)
def Th.place (t:Th):Nat:=(t.r t.next.b+t.next.n)%18446744073709551616
def op1 (x:In) (l:List Nat) (p:Nat) (r:Nat→Nat):List Nat × (Nat→Nat) :=
 let v:=l.getD p 0
 match x.op with
 | 1=>(l,upd r x.a v)
 | 2=>(l.set p (r x.a),r)
 | 3=>(l.set p ((v+r x.c)%18446744073709551616),upd r x.a ((v+r x.c)%18446744073709551616))
 | 4=>(l.set p (r x.c),upd r x.a v)
 | _=>if v=r x.c then (l.set p (r x.d),upd r x.a 1) else (l,upd r x.a 0)
def Wd.row (w:Wd) (on:Nat):List Nat:=w.words.getD on []
def opF (f:Nat) (w:Wd) (t:Th):Option (Wd × Th) :=
 if t.place<(w.row t.next.on).length then
  let y:=op1 t.next (w.row t.next.on) t.place t.r
  (onF f { t with pc:=t.pc+1,r:=y.2 }).map fun t'=>({ w with words:=w.words.set t.next.on y.1 },t')
 else none
def Th.mark (t:Th):Nat × Nat:=(t.next.op,t.place)
structure St where
 w:Wd
 l:List Th
 tr:List (Nat × Nat × Nat):=[]
def turn (f:Nat) (s:St) (k:Nat):Option St :=
 match s.l[k]? with
 | some t=>(opF f s.w t).map fun y=>⟨y.1,s.l.set k y.2,s.tr++[(k,t.mark)]⟩
 | none=>some s
def may (s:St) (k:Nat):Bool:=s.tr.length<16384&&(match s.l[k]? with | some t=>!t.over | none=>false)
def byOrder (f:Nat):St→List (Option Nat)→Option St
 | s,[]=>some s
 | s,none::o=>byOrder f s o
 | s,some k::o=>if may s k=true then (turn f s k).bind fun s=>byOrder f s o else byOrder f s o
def round (f:Nat):Nat→Nat→St→Bool→Option (St × Bool)
 | 0,_,s,q=>some (s,q)
 | m+1,k,s,q=>if may s k=true then (turn f s k).bind fun s=>round f m (k+1) s true else round f m (k+1) s q
def rounds (f:Nat):Nat→St→Option St
 | 0,_=>none
 | g+1,s=>(round f s.l.length 0 s false).bind fun y=>if y.2=true then rounds f g y.1 else some y.1
def begin_ (f:Nat):List Th→Option (List Th)
 | []=>some []
 | t::l=>(onF f t).bind fun t=>(begin_ f l).map fun l=>t::l
def play (f g:Nat) (w:Wd) (o:List (Option Nat)) (l:List (List Cl)):Option St :=
 (begin_ f (l.map fun c=>{ calls:=c })).bind fun l=>(byOrder f ⟨w,l,[]⟩ o).bind fun s=>rounds f g s
def In.ok (x:In):Bool:=1≤x.op&&x.op≤23&&x.a<24&&x.b<24&&x.c<24&&x.d<24&&x.on<1000&&x.n<18446744073709551616&&(!(18≤x.op&&x.op≤21)||x.n<1000000)&&(!(x.op=17)||!(x.a=x.b))&&(!(x.op=14||x.op=15)||x.n<64)
def Cl.ok (c:Cl):Bool:=c.code.all In.ok&&c.data.all (fun v=>v<18446744073709551616)&&c.code.length<1000000&&c.data.length<1000000
end
end Go.PB.Mach
namespace Go.Proofs.Ytaeegnfbofagcaa
open Go Go.PB
section
structure Wds where
 W:(Nat→Nat)→Mach.Wd
 un:Mach.Wd→(Nat→Nat)
 ok:(Nat→Nat)→Prop
 fu:Nat
 back:∀ f,W (un (W f))=W f
 okun:∀ f,ok f→ok (un (W f))
def mF (D:Wds) (q:Nat × Mach.Th) (f:Nat→Nat):(Nat→Nat) × (Nat × Mach.Th) :=
 match Mach.opF D.fu (D.W f) q.2 with
 | some y=>(D.un y.1,(q.1,y.2))
 | none=>(f,(q.1,{ q.2 with over:=true }))
def mkII (m:Nat × Nat):Int × Int:=(((m.1:Nat):Int),((m.2:Nat):Int))
def mPlan (D:Wds) (q:Nat × Mach.Th):Option ((Int × Int) × ((Nat→Nat)→(Nat→Nat) × (Nat × Mach.Th))) :=
 if q.2.over=true then none else some (mkII q.2.mark,mF D q)
def mG (D:Wds) (U:(Nat→Nat)→HProp) (Pv:Nat × Mach.Th→HProp):Game where
 σ:=Nat→Nat
 θ:=Nat × Mach.Th
 U:=U
 plan:=mPlan D
 ok:=D.ok
 Pv:=Pv
 Fin:=Pv
def GoodN (D:Wds):Nat→Mach.Th→Prop
 | 0,_=>True
 | n+1,t=>t.over=true∨t.over=false∧∀ f,D.ok f→∃ f' t',Mach.opF D.fu (D.W f) t=some (D.W f',t')∧D.ok f'∧GoodN D n t'
def GoodT (D:Wds) (t:Mach.Th):Prop:=∀ n,GoodN D n t
section
variable {D:Wds} {U:(Nat→Nat)→HProp} {Pv:Nat × Mach.Th→HProp}
structure Rel (p:PS (mG D U Pv)) (st:Mach.St):Prop where
 w:st.w=D.W p.s
 len:p.qs.length=st.l.length
 qs:∀ k:Nat,p.qs[k]?=(st.l[k]?).map fun t=>(k,t)
 tr:p.tr=st.tr.map fun e=>(e.1,mkII e.2)
 le:st.tr.length≤16384
 good:∀ t∈st.l,GoodT D t
 ok:D.ok p.s
structure Begins (D:Wds) (U:(Nat→Nat)→HProp) (Pv:Nat × Mach.Th→HProp) (k0:Nat) (ts:List (Thr (mG D U Pv))) (cc:List (List Mach.Cl)):Prop where
 len:ts.length=cc.length
 ini:∀ (k:Nat) t c,ts[k]?=some t→cc[k]?=some c→∃ u,Mach.onF D.fu { calls:=c }=some u∧GoodT D u∧∀ s:(mG D U Pv).σ,t.ini s=(s,((k0+k,u):Nat × Mach.Th))
end
end
end Go.Proofs.Ytaeegnfbofagcaa
namespace Go.Proofs.Ytaeegnfbofagcaa
open Go Go.PB
attribute [local irreducible] Mo Bin Eql Tr Wo
section
structure Acc (B:Hand) (gv:Value) where
 S:Type
 C:S→HProp
 x:S→B.X
 step:Int→Nat→S→(S→Prop)→Prop
 addr:Nat→Nat × Nat
 load:Nat→S→(Nat→S→Prop)→Prop
 store:Nat→Nat→S→(S→Prop)→Prop
 cas:Nat→Nat→Nat→S→(Bool→S→Prop)→Prop
 add:Nat→Nat→S→(Nat→S→Prop)→Prop
 swap:Nat→Nat→S→(Nat→S→Prop)→Prop
 gate:(gv=.nilIface∧∀ op w s R,step op w s R→R s) ∨
  ∃ t p f,gv=.iface t p∧Met Try.prog t "Step" f∧Ent' Try.prog f∧∀ op w s R L F,step op w s R→Has L (C s) F →
   Tr Try.prog B f [p,.agg #[.int .u8 op,.int .i64 (w:Nat)]] L (x s) fun v L' x'=>∃ s',R s'∧v=.tuple #[]∧L'=C s'::F∧x'=x s'
 load_ok:∀ w s R L F b o,addr w=(b,o)→load w s R→Has L (C s) F→Tr Try.prog B 22 [.pointer (some ⟨b,o,none⟩)] L (x s) fun v L' x'=>∃ n s',n<18446744073709551616∧R n s'∧v=.int .u64 (n:Nat)∧L'=C s'::F∧x'=x s'
 store_ok:∀ w n s R L F b o,addr w=(b,o)→n<18446744073709551616→store w n s R→Has L (C s) F→Tr Try.prog B 19 [.pointer (some ⟨b,o,none⟩),.int .u64 (n:Nat)] L (x s) fun v L' x'=>∃ s',R s'∧v=.tuple #[]∧L'=C s'::F∧x'=x s'
 cas_ok:∀ w m n s R L F b o,addr w=(b,o)→n<18446744073709551616→cas w m n s R→Has L (C s) F→Tr Try.prog B 23 [.pointer (some ⟨b,o,none⟩),.int .u64 (m:Nat),.int .u64 (n:Nat)] L (x s) fun v L' x'=>∃ q s',R q s'∧v=.bool q∧L'=C s'::F∧x'=x s'
 add_ok:∀ w n s R L F b o,addr w=(b,o)→n<18446744073709551616→add w n s R→Has L (C s) F→Tr Try.prog B 60 [.pointer (some ⟨b,o,none⟩),.int .u64 (n:Nat)] L (x s) fun v L' x'=>∃ m s',m<18446744073709551616∧R m s'∧v=.int .u64 (m:Nat)∧L'=C s'::F∧x'=x s'
section
variable {B:Hand} [Lets B] {L F L1:List HProp}
theorem load_lone {b o:Nat} {n:Int} {x:B.X} (hr:Rd L b o (.int .u64 n)):Tr Try.prog B 22 [.pointer (some ⟨b,o,none⟩)] L x fun v L' x'=>v=.int .u64 n∧L'=L∧x'=x:=by
 refine tr_of_body Try.func22 rfl Try.ntmps22 (by simp) fun um Q _ hQ=>?_
 simp only [argE,Nat.zero_add,Nat.reduceAdd]
 repeat (first | (apply wo_po;apply mo_ext (args:=[_]);exact .cons rfl .nil;exact at_loadI hr;exact trivial) | refine we_seq ?_ | (refine wR ?_;try simp only [oS]) | refine wo_nil ?_ | refine wM ?_ | refine wA ?_ | refine wN ?_ | refine wD ?_ | refine we_ret ?_)
 (first | refine or1 Try.func22 Try.results22 hQ rfl ?_ | refine on1 Try.func22 Try.results22 hQ rfl ?_)
 exact ⟨rfl,rfl,rfl⟩
theorem store_lone {b o:Nat} {n:Int} {x:B.X} (hw:Wt L b o (.int .u64 n) L1):Tr Try.prog B 19 [.pointer (some ⟨b,o,none⟩),.int .u64 n] L x fun v L' x'=>v=.tuple #[]∧L'=L1∧x'=x:=by
 refine tr_of_body Try.func19 rfl Try.ntmps19 (by simp) fun um Q _ hQ=>?_
 simp only [argE,Nat.zero_add,Nat.reduceAdd]
 repeat (first | (apply wo_pm;apply mo_ext (args:=[_,_]);exact .cons rfl (.cons rfl .nil);exact at_storeI rfl hw;exact trivial) | (refine wR ?_;try simp only [oS]) | refine wo_nil ?_ | refine wM ?_ | refine wN ?_ | refine wD ?_)
 (first | refine or0 Try.func19 Try.results19 hQ ?_ | refine on0 Try.func19 Try.results19 hQ ?_)
 exact ⟨rfl,rfl,rfl⟩
theorem cas_lone {b o:Nat} {n m y:Int} {x:B.X} (hr:Rd L b o (.int .u64 n)) (hw:Wt L b o (.int .u64 y) L1):Tr Try.prog B 23 [.pointer (some ⟨b,o,none⟩),.int .u64 m,.int .u64 y] L x fun v L' x'=>v=.bool (decide (n=m))∧L'=(if n=m then L1 else L)∧x'=x:=by
 refine tr_of_body Try.func23 rfl Try.ntmps23 (by simp) fun um Q _ hQ=>?_
 simp only [argE,Nat.zero_add,Nat.reduceAdd]
 repeat (first | (apply wo_pm;apply mo_ext (args:=[_,_,_]);exact .cons rfl (.cons rfl (.cons rfl .nil));exact at_casI hr hw;exact trivial) | refine we_seq ?_ | (refine wR ?_;try simp only [oS]) | refine wo_nil ?_ | refine wM ?_ | refine wA ?_ | refine wN ?_ | refine wD ?_ | refine we_ret ?_)
 (first | refine or1 Try.func23 Try.results23 hQ rfl ?_ | refine on1 Try.func23 Try.results23 hQ rfl ?_)
 exact ⟨rfl,rfl,rfl⟩
theorem add_lone {b o:Nat} {n y r:Int} {x:B.X} (hr:Rd L b o (.int .u64 n)) (hn:IntKind.u64.wrap (n+y)=r) (hw:Wt L b o (.int .u64 r) L1):Tr Try.prog B 60 [.pointer (some ⟨b,o,none⟩),.int .u64 y] L x fun v L' x'=>v=.int .u64 r∧L'=L1∧x'=x:=by
 refine tr_of_body Try.func60 rfl Try.ntmps60 (by simp) fun um Q _ hQ=>?_
 simp only [argE,Nat.zero_add,Nat.reduceAdd]
 repeat (first | (apply wo_pm;apply mo_ext (args:=[_,_]);exact .cons rfl (.cons rfl .nil);exact at_addI hr hn hw;exact trivial) | refine we_seq ?_ | (refine wR ?_;try simp only [oS]) | refine wo_nil ?_ | refine wM ?_ | refine wA ?_ | refine wN ?_ | refine wD ?_ | refine we_ret ?_)
 (first | refine or1 Try.func60 Try.results60 hQ rfl ?_ | refine on1 Try.func60 Try.results60 hQ rfl ?_)
 exact ⟨rfl,rfl,rfl⟩
end
end
section
variable {B:Hand} [Lets B]
def loneAcc (x:B.X) (addr:Nat→Nat × Nat) (N:Nat) (K:List (Nat × Nat × Value)) (A:Apart addr N K):Acc B .nilIface where
 S:=Nat→Nat
 C:=wds addr N K
 x:=fun _=>x
 step:=fun _ _ s R=>R s
 addr:=addr
 load:=fun w s R=>w<N∧R (s w) s
 store:=fun w n s R=>w<N∧R (upd s w n)
 cas:=fun w a n s R=>w<N∧if s w=a then R true (upd s w n) else R false s
 add:=fun w n s R=>w<N∧R ((s w+n)%18446744073709551616) (upd s w ((s w+n)%18446744073709551616))
 swap:=fun w n s R=>w<N∧R (s w) (upd s w n)
 gate:=.inl ⟨rfl,fun _ _ _ _ h=>h⟩
 load_ok:=fun w s R L F b o ha hl hh=>tr_pure (of_has hh fun h hc=>(hc.1 w hl.1).1) fun hs =>
  (load_lone (rd_wds hh hl.1 ha)).post fun v L' x' ⟨h1,h2,h3⟩=>⟨_,⟨s w,s,hs,hl.2,h1,rfl,h3⟩,fun h st=>hh.star (h2▸st)⟩
 store_ok:=fun w n s R L F b o ha hn hl hh =>
  (store_lone (wt_wds A hh hl.1 ha hn)).mono fun v L' x' ⟨h1,h2,h3⟩=>⟨upd s w n,hl.2,h1,h2,h3⟩
 cas_ok:=fun w m n s R L F b o ha hn hl hh =>
  (cas_lone (rd_wds hh hl.1 ha) (wt_wds A hh hl.1 ha hn)).post fun v L' x' ⟨h1,h2,h3⟩=>by
   obtain ⟨h4,h5⟩:=hl
   by_cases e:s w=m
   ·rw [if_pos e] at h5;rw [if_pos (by omega)] at h2;exact ⟨_,⟨true,_,h5,by rw [h1];simp [e],rfl,h3⟩,fun h st=>h2▸st⟩
   ·rw [if_neg e] at h5;rw [if_neg (by omega)] at h2;exact ⟨_,⟨false,_,h5,by rw [h1];simp;omega,rfl,h3⟩,fun h st=>hh.star (h2▸st)⟩
 add_ok:=fun w n s R L F b o ha hn hl hh =>
  (add_lone (r:=((s w+n)%18446744073709551616:Nat)) (rd_wds hh hl.1 ha) (by rw [wrap_u64_mod];omega) (wt_wds A hh hl.1 ha (Nat.mod_lt _ (by decide)))).mono fun v L' x' ⟨h1,h2,h3⟩=>⟨_,_,Nat.mod_lt _ (by decide),hl.2,h1,h2,h3⟩
end
end Go.Proofs.Ytaeegnfbofagcaa
namespace Go.Proofs.Ytaeegnfbofagcaa
open Go Go.PB
attribute [local irreducible] Mo Bin Eql Tr Wo Ap Wle
section
theorem wds_congr {addr:Nat→Nat × Nat} {N:Nat} {K:List (Nat × Nat × Value)} {f f':Nat→Nat} (e:∀ i,i<N→f i=f' i):∀ h,wds addr N K f h→wds addr N K f' h:=fun h s =>
 ⟨fun w hw=>by rw [← e w hw];exact s.1 w hw,s.2⟩
structure PlS where
 f:Nat→Nat
 g:Nat→Nat
 t:Mach.Th
 n:Nat
section
variable {D:Wds} {addr:Nat→Nat × Nat} {N:Nat} {K:List (Nat × Nat × Value)} {Z:HProp} {Pv:Nat × Mach.Th→HProp} {sb says turn fin wg:Nat}
end
end
section
structure WGm where
 σ:Type
 θ:Type
 ζ:Type
 wf:σ→Nat→Nat
 zf:σ→ζ
 Z:ζ→HProp
 plan:θ→Option ((Int × Int) × (σ→σ × θ))
 ok:σ→Prop
 Pv:θ→HProp
 up:∀ q h,Star [Pv q] h→Pv q h
def WGm.g (G:WGm) (addr:Nat→Nat × Nat) (N:Nat) (K:List (Nat × Nat × Value)):Game where
 σ:=G.σ
 θ:=G.θ
 U:=fun s=>all [wds addr N K (G.wf s),G.Z (G.zf s)]
 plan:=G.plan
 ok:=G.ok
 Pv:=G.Pv
 Fin:=G.Pv
structure GaS (G:WGm) where
 f:Nat→Nat
 c:G.ζ
 s:G.σ
 q:G.θ
 n:Nat
section
variable {G:WGm} {addr:Nat→Nat × Nat} {N:Nat} {K:List (Nat × Nat × Value)} {sb says turn fin wg:Nat}
def gaC (G:WGm) (addr:Nat→Nat × Nat) (N:Nat) (K:List (Nat × Nat × Value)) (sb says turn fin:Nat) (Pm:HProp) (f:Nat→Nat) (c:G.ζ):HProp:=all [wds addr N K f,G.Z c,seatR sb says turn fin,Pm]
def GaStep (G:WGm) (N:Nat) (Pm:HProp) (op:Int) (w:Nat) (s:GaS G) (R:GaS G→Prop):Prop :=
 ∃ F,G.plan s.q=some ((op,((w:Nat):Int)),F)∧(∀ i,i<N→s.f i=G.wf s.s i)∧s.c=G.zf s.s∧(∀ h,Pm h→G.Pv s.q h)∧∀ s' n,n<s.n→G.ok s'→R ⟨G.wf s',G.zf s',(F s').1,(F s').2,n⟩
theorem ga_step {Pm:HProp} {op:Int} {w:Nat} {s:GaS G} {R:GaS G→Prop} {L F:List HProp} (hs:GaStep G N Pm op w s R) (hh:Has L (gaC G addr N K sb says turn fin Pm s.f s.c) F) :
  Tr Try.prog tH 84 [.pointer (some ⟨sb,0,none⟩),.agg #[.int .u8 op,.int .i64 (w:Nat)]] L (tx (G.g addr N K) says turn fin wg (.busy s.s s.q s.n)) fun v L' x' =>
   ∃ s',R s'∧v=.tuple #[]∧L'=gaC G addr N K sb says turn fin Pm s'.f s'.c::F∧x'=tx (G.g addr N K) says turn fin wg (.busy s'.s s'.q s'.n):=by
 obtain ⟨FF,hp,hfg,hc,hpm,hR⟩:=hs
 refine tr_star ((G.g addr N K).U s.s::seatR sb says turn fin::Pm::F) (fun h st=>?_) ?_
 ·have s1:Star (wds addr N K s.f::G.Z s.c::seatR sb says turn fin::Pm::F) h:=star_open (M:=[_,_,_,_]) (hh.star st)
  rw [hc] at s1
  exact star_shut (M:=[_,_]) (star_map s1 (wds_congr hfg) fun _ z=>z)
 ·refine (seat_tr (g:=G.g addr N K) (mk:=(op,((w:Nat):Int))) (f:=FF) hp .here .here fun h st=>G.up _ _ ?_).post ?_
  ·exact star_map (star_drop st) hpm fun _ z=>trivial
  ·rintro v L' x' ⟨m',s',hm,hok,rfl,rfl,rfl⟩
   refine ⟨_,⟨⟨G.wf s',G.zf s',(FF s').1,(FF s').2,m'⟩,hR s' m' (by omega) hok,rfl,rfl,rfl⟩,fun h st=>?_⟩
   exact star_shut (M:=[_,_,_,_]) (star_open (M:=[_,_]) st)
def gamAcc (G:WGm) (addr:Nat→Nat × Nat) (N:Nat) (K:List (Nat × Nat × Value)) (A:Apart addr N K) (sb says turn fin wg:Nat) (Pm:HProp):Acc tH (gateV sb) where
 S:=GaS G
 C:=fun s=>gaC G addr N K sb says turn fin Pm s.f s.c
 x:=fun s=>tx (G.g addr N K) says turn fin wg (.busy s.s s.q s.n)
 step:=GaStep G N Pm
 addr:=addr
 load:=fun w s R=>w<N∧R (s.f w) s
 store:=fun w n s R=>w<N∧R { s with f:=upd s.f w n }
 cas:=fun w a n s R=>w<N∧if s.f w=a then R true { s with f:=upd s.f w n } else R false s
 add:=fun w n s R=>w<N∧R ((s.f w+n)%18446744073709551616) { s with f:=upd s.f w ((s.f w+n)%18446744073709551616) }
 swap:=fun w n s R=>w<N∧R (s.f w) { s with f:=upd s.f w n }
 gate:=.inr ⟨_,_,84,rfl,inferInstance,inferInstance,fun op w s R L F hs hh=>ga_step hs hh⟩
 load_ok:=fun w s R L F b o ha hl hh=>tr_star _ (fun h st=>star_open (hh.star st)) (tr_pure (of_has .here fun h hc=>(hc.1 w hl.1).1) fun hs =>
  (load_lone (rd_wds .here hl.1 ha)).post fun v L' x' ⟨h1,h2,h3⟩=>⟨_,⟨s.f w,s,hs,hl.2,h1,rfl,h3⟩,fun h st=>star_shut (M:=[_,_,_,_]) (by rw [h2] at st;exact st)⟩)
 store_ok:=fun w n s R L F b o ha hn hl hh=>tr_star _ (fun h st=>star_open (hh.star st))
  ((store_lone (wt_wds A .here hl.1 ha hn)).post fun v L' x' ⟨h1,h2,h3⟩=>⟨_,⟨{ s with f:=upd s.f w n },hl.2,h1,rfl,h3⟩,fun h st=>star_shut (M:=[_,_,_,_]) (by rw [h2] at st;exact st)⟩)
 cas_ok:=fun w m n s R L F b o ha hn hl hh=>tr_star _ (fun h st=>star_open (hh.star st))
  ((cas_lone (rd_wds .here hl.1 ha) (wt_wds A .here hl.1 ha hn)).post fun v L' x' ⟨h1,h2,h3⟩=>by
   obtain ⟨h4,h5⟩:=hl
   by_cases e:s.f w=m
   ·rw [if_pos e] at h5;rw [if_pos (by omega)] at h2;exact ⟨_,⟨true,_,h5,by rw [h1];simp [e],rfl,h3⟩,fun h st=>star_shut (M:=[_,_,_,_]) (by rw [h2] at st;exact st)⟩
   ·rw [if_neg e] at h5;rw [if_neg (by omega)] at h2;exact ⟨_,⟨false,_,h5,by rw [h1];simp;omega,rfl,h3⟩,fun h st=>star_shut (M:=[_,_,_,_]) (by rw [h2] at st;exact st)⟩)
 add_ok:=fun w n s R L F b o ha hn hl hh=>tr_star _ (fun h st=>star_open (hh.star st))
  ((add_lone (r:=((s.f w+n)%18446744073709551616:Nat)) (rd_wds .here hl.1 ha) (by rw [wrap_u64_mod];omega) (wt_wds A .here hl.1 ha (Nat.mod_lt _ (by decide)))).post fun v L' x' ⟨h1,h2,h3⟩=>⟨_,⟨_,{ s with f:=_ },Nat.mod_lt _ (by decide),hl.2,h1,rfl,h3⟩,fun h st=>star_shut (M:=[_,_,_,_]) (by rw [h2] at st;exact st)⟩)
theorem ga_go {A:Apart addr N K} {Pm:HProp} {op w:Nat} {o:Int} {s:GaS G} {R:GaS G→Prop} {F:G.σ→G.σ × G.θ} (ho:((op:Nat):Int)=o) (hp:G.plan s.q=some ((((op:Nat):Int),((w:Nat):Int)),F)) (hf:∀ i,i<N→s.f i=G.wf s.s i) (hc:s.c=G.zf s.s) (hpm:∀ h,Pm h→G.Pv s.q h)
  (hR:∀ s' n,n<s.n→G.ok s'→R ⟨G.wf s',G.zf s',(F s').1,(F s').2,n⟩):(gamAcc G addr N K A sb says turn fin wg Pm).step o w s R:=by
 subst ho
 exact ⟨F,hp,hf,hc,hpm,hR⟩
end
section
variable {g:Game}
theorem play_ends {I:PS g→Prop} {Φ:PS g→Nat} {ts:List (Thr g)} {s:g.σ} {o:List Int} {n:Nat} (hs:∀ p k,I p→I (takeF p k).1) (hΦ:∀ p k,I p→(takeF p k).2=true→Φ (takeF p k).1+1≤Φ p) (h0:I ⟨(startF ts s).1,(startF ts s).2,[]⟩) (hn:Φ ⟨(startF ts s).1,(startF ts s).2,[]⟩≤n) (hlt:n<16384) :
  I (playF ts s o)∧(playF ts s o).tr.length≤n∧∀ (k:Nat) q,(playF ts s o).qs[k]?=some q→g.plan q=none:=by
 have hJ:I (playF ts s o)∧(playF ts s o).tr.length+Φ (playF ts s o)≤n:=playF_inv (I:=fun p=>I p∧p.tr.length+Φ p≤n) (fun p k h=>⟨hs p k h.1,by
  have h2:=h.2
  rcases takeF_cases p k with e | ⟨m,q,mk,f,hk,hq,hp,htr,e⟩
  ·rw [e];exact h2
  ·have h3:=hΦ p k h.1 (by rw [e])
   have h4:(takeF p k).1.tr.length=p.tr.length+1:=by rw [e];simp
   omega⟩) ⟨h0,by simpa using hn⟩
 refine ⟨hJ.1,by omega,fun k q hq=>(playF_done hq).resolve_right (by omega)⟩
end
theorem sum_step {α:Type} {φ0 φ1:α→Nat} (h:∀ a,φ1 a≤φ0 a):∀ {l:List α} {k:Nat} {q q':α},l[k]?=some q→φ1 q'+1≤φ0 q→sumN ((l.set k q').map φ1)+1≤sumN (l.map φ0)
 | [],_,_,_,hq,_=>by simp at hq
 | a::l,0,q,q',hq,hl=>by
  simp at hq;subst hq
  have hle:∀ l:List α,sumN (l.map φ1)≤sumN (l.map φ0):=by
   intro l
   induction l with
   | nil=>simp [sumN]
   | cons b l ih=>have:=h b;simp only [List.map_cons,sumN,List.foldr_cons] at ih ⊢;omega
  have:=hle l
  simp only [List.set_cons_zero,List.map_cons,sumN,List.foldr_cons] at this ⊢;omega
 | a::l,k+1,q,q',hq,hl=>by
  have h1:=sum_step h (l:=l) (k:=k) (q:=q) (q':=q') (by simpa using hq) hl
  have h2:=h a
  simp only [List.set_cons_succ,List.map_cons,sumN,List.foldr_cons] at h1 ⊢;omega
theorem sum_le2 {α:Type} {φ0 φ1:α→Nat} {d:Nat} (h:∀ a,φ1 a≤φ0 a+d):∀ (l:List α),sumN (l.map φ1)≤sumN (l.map φ0)+d*l.length
 | []=>by simp [sumN]
 | a::l=>by
  have h1:=sum_le2 h l
  have h2:=h a
  simp only [List.map_cons,sumN,List.foldr_cons,List.length_cons,Nat.mul_add] at h1 ⊢;omega
theorem sum_set {α:Type} {φ:α→Nat} {l:List α} {k:Nat} {q q':α} (hq:l[k]?=some q):sumN ((l.set k q').map φ)+φ q=sumN (l.map φ)+φ q':=by
 rw [List.map_set]
 exact sumN_set (by rw [List.getElem?_map,hq];rfl)
theorem sum_step2 {α:Type} {φ0 φ1:α→Nat} {d:Nat} (h:∀ a,φ1 a≤φ0 a+d) {l:List α} {k:Nat} {q q':α} (hq:l[k]?=some q) (hl:φ1 q'+d*l.length+1≤φ1 q):sumN ((l.set k q').map φ1)+1≤sumN (l.map φ0):=by
 have h1:=sum_set (φ:=φ1) (q':=q') hq
 have h2:=sum_le2 h l
 omega
end
section
theorem mulw {u v w:Nat} (h:u*v=w) (hw:w<18446744073709551616):IntKind.u64.wrap ((u:Int)*(v:Int))=(w:Int):=by
 rw [← Int.natCast_mul,h];exact wrap_u64 (by omega) (by omega)
theorem addw {u v w:Nat} (h:u+v=w) (hw:w<18446744073709551616):IntKind.u64.wrap ((u:Int)+(v:Int))=(w:Int):=by
 rw [← Int.natCast_add,h];exact wrap_u64 (by omega) (by omega)
theorem subw {u v w:Nat} (h:v+w=u) (hw:u<18446744073709551616):IntKind.u64.wrap ((u:Int)-(v:Int))=(w:Int):=by
 rw [show (u:Int)-(v:Int)=(w:Int) by omega];exact wrap_u64 (by omega) (by omega)
theorem mulm {u v:Nat}:IntKind.u64.wrap ((u:Int)*(v:Int))=((u*v%18446744073709551616:Nat):Int):=by
 rw [← Int.natCast_mul,wrap_u64_mod];generalize u*v=m;omega
theorem lowm {u:Nat} (h:u<18446744073709551616):IntKind.u64.wrap (BitVec.ofInt IntKind.u64.bits (u:Int) &&& BitVec.ofInt IntKind.u64.bits (4294967295:Int)).toNat=((u%4294967296:Nat):Int):=by
 rw [show (4294967295:Int)=((4294967295:Nat):Int) from rfl,and_u64' h (by omega),show u &&& 4294967295=u%4294967296 from Nat.and_two_pow_sub_one_eq_mod u 32];omega
theorem highm {u:Nat} (h:u<18446744073709551616):(u:Int).fdiv (2^(min (32:Int).toNat IntKind.u64.bits))=((u/4294967296:Nat):Int):=by
 have:=u64_shr (a:=u) (n:=32) (by omega) h
 rw [show ((32:Nat):Int)=32 from rfl] at this
 rw [this];omega
section
variable {B:Hand} [Lets B] {L F:List HProp} {x:B.X} {a b:Nat}
set_option maxHeartbeats 2000000 in
theorem mul64_tr (ha:a<18446744073709551616) (hb:b<18446744073709551616):Tr Try.prog B 63 [.int .u64 (a:Nat),.int .u64 (b:Nat)] L x fun v L' x'=>v=.tuple #[.int .u64 (a*b/18446744073709551616:Nat),.int .u64 (a*b%18446744073709551616:Nat)]∧L'=L∧x'=x:=by
 obtain ⟨k1,k2,k3,k4⟩:=Go.Lib.mul64_hi a b ha hb
 have e1:=lowm ha
 have e2:=lowm hb
 have e3:=highm ha
 have e4:=highm hb
 have hab:a*b/18446744073709551616<18446744073709551616:=Nat.div_lt_of_lt_mul (Nat.mul_lt_mul'' ha hb)
 have e5:=mulm (u:=a) (v:=b)
 generalize a*b/18446744073709551616=hi at *
 generalize a*b%18446744073709551616=lo at *
 generalize a%4294967296=x0 at *
 generalize a/4294967296=x1 at *
 generalize b%4294967296=y0 at *
 generalize b/4294967296=y1 at *
 have m1:IntKind.u64.wrap ((x0:Int)*(y0:Int))=((x0*y0:Nat):Int):=mulw rfl (by omega)
 have m2:IntKind.u64.wrap ((x1:Int)*(y0:Int))=((x1*y0:Nat):Int):=mulw rfl (by omega)
 have m3:IntKind.u64.wrap ((x0:Int)*(y1:Int))=((x0*y1:Nat):Int):=mulw rfl (by omega)
 have m4:IntKind.u64.wrap ((x1:Int)*(y1:Int))=((x1*y1:Nat):Int):=mulw rfl (by omega)
 generalize x0*y0=p00 at *
 generalize x1*y0=p10 at *
 generalize x0*y1=p01 at *
 generalize x1*y1=p11 at *
 have h1:=highm (u:=p00) (by omega)
 have s1:IntKind.u64.wrap ((p10:Int)+((p00/4294967296:Nat):Int))=((p10+p00/4294967296:Nat):Int):=addw rfl (by omega)
 generalize p00/4294967296=c00 at *
 generalize p10+c00=t at *
 have h2:=highm (u:=t) (by omega)
 have l2:=lowm (u:=t) (by omega)
 generalize t/4294967296=w2 at *
 generalize t%4294967296=w1 at *
 have s2:IntKind.u64.wrap ((w1:Int)+(p01:Int))=((w1+p01:Nat):Int):=addw rfl (by omega)
 have s3:IntKind.u64.wrap ((p11:Int)+(w2:Int))=((p11+w2:Nat):Int):=addw rfl (by omega)
 generalize w1+p01=w1' at *
 generalize p11+w2=q at *
 have h3:=highm (u:=w1') (by omega)
 have s4:IntKind.u64.wrap ((q:Int)+((w1'/4294967296:Nat):Int))=(hi:Int):=addw k4 hab
 refine tr_of_body Try.func63 rfl Try.ntmps63 (by simp) fun um Q _ hQ=>?_
 simp only [argE,Nat.zero_add,Nat.reduceAdd]
 repeat (first | (apply wo_po;apply mo_bin;exact rfl;exact rfl;apply bin_and;(first | exact e1 | exact e2 | exact l2);exact gY) | (apply wo_po;apply mo_bin;exact rfl;exact rfl;apply bin_shr;omega;(first | exact e3 | exact e4 | exact h1 | exact h2 | exact h3);exact gY) | (apply wo_po;apply mo_bin;exact rfl;exact rfl;apply bin_mul;(first | exact m1 | exact m2 | exact m3 | exact m4 | exact e5);exact gY) | (apply wo_po;apply mo_bin;exact rfl;exact rfl;apply bin_add;(first | exact s1 | exact s2 | exact s3 | exact s4);exact gY) | refine we_seq ?_ | (refine wR ?_;try simp only [oS]) | refine wo_nil ?_ | refine wM ?_ | refine wA ?_ | refine we_ret ?_)
 (first | refine or2 Try.func63 Try.results63 hQ rfl rfl ?_ | refine on2 Try.func63 Try.results63 hQ rfl rfl ?_)
 exact ⟨rfl,rfl,rfl⟩
end
instance:Exn Try.prog 64 add64Entry:=⟨⟨Try.f64,Try.func64,by kernel_rfl,by kernel_rfl,by kernel_rfl,by kernel_rfl⟩⟩
theorem at_add64 {P:Program} {L:List HProp} {a b:Nat}:∀ (M:Mark→Prop) h (Q:Value→Hp→Prop) X,Star L h→(∀ v L' h',(v=.tuple #[.int .u64 ((a+b)%18446744073709551616:Nat),.int .u64 ((a+b)/18446744073709551616:Nat)]∧L'=L)→Star L' h'→Q v h')→wpS P M (add64Entry [.int .u64 (a:Nat),.int .u64 (b:Nat),.int .u64 0].toArray) h Q X:=by
 intro M h Q X s q
 exact q _ L h ⟨rfl,rfl⟩ s
end
section
def takeN (num den burst s now n:Nat):Option Nat :=
 if burst*den<n*den+(max s (now*num)-now*num) then none else some ((max s (now*num)+n*den)%18446744073709551616)
def takeR (s:Nat):Option Nat→Value
 | none=>.tuple #[.int .u64 (s:Nat),.bool false,.int .i64 0]
 | some t=>.tuple #[.int .u64 (t:Nat),.bool true,.int .i64 0]
structure BOk (num den burst:Nat):Prop where
 n1:1≤num
 n2:num≤65536
 d1:1≤den
 d2:den≤65536
 b1:1≤burst
 b2:burst≤1048576
section
variable {B:Hand} [Lets B] {L F:List HProp} {x:B.X} {num den burst now n s h1 l1 h2 l2 b wb:Nat}
theorem mo_maxN {P:Program} {e:Env} {ty:TypeId} {o o':Operand} {tys:Array TypeId} {k:IntKind} {a b c:Nat} (hx:ev e o=some (.int k a)) (hy:ev e o'=some (.int k b)) (h:max a b=c):Mo P e (.call ⟨.builtin .max,#[o,o'],tys⟩) ty L fun v' L'=>v'=.int k c∧L'=L:=by
 have:=mo_max (P:=P) (ty:=ty) (L:=L) (tys:=tys) hx hy
 rw [show max (a:Int) (b:Int)=(c:Int) by omega] at this
 exact this
theorem check_ok (O:BOk num den burst):Tr Try.prog B 28 [.agg #[.int .u64 (num:Nat),.int .u64 (den:Nat),.int .u64 (burst:Nat)]] L x fun v L' x'=>v=.int .i64 0∧L'=L∧x'=x:=by
 obtain ⟨n1,n2,d1,d2,b1,b2⟩:=O
 refine Tr.post (R:=fun v L' x'=>v=.int .i64 0∧x'=x∧∀ h,Star L' h→Star L h) ?_ (by rintro v L' x' ⟨h0,rfl,hs⟩;exact ⟨L,⟨h0,rfl,rfl⟩,hs⟩)
 refine tr_of_body Try.func28 rfl Try.ntmps28 (by simp) fun um Q _ hQ=>?_
 simp only [argE,Nat.zero_add,Nat.reduceAdd]
 repeat (first | (apply wo_mo;apply mo_box;exact rfl;exact trivial) | refine we_seq ?_ | (refine wR ?_;try simp only [oS]))
 rintro v' L' ⟨bb,rfl,rfl⟩
 refine wo_ent (arr bb 0 [.int .u64 (num:Nat),.int .u64 (den:Nat),.int .u64 (burst:Nat)]::L) .refl ?_
 repeat (first | refine wlssF ?_ | refine wgtrF ?_ | refine we_seq ?_ | (refine wR ?_;try simp only [oS]) | refine wo_nil ?_ | refine wM ?_ | refine wA ?_ | refine wJ ?_ | refine wD ?_ | refine wL ?_ | refine wF ?_ | refine we_ret ?_ | refine we_skip ?_)
 (first | refine or1 Try.func28 Try.results28 hQ rfl ?_ | refine on1 Try.func28 Try.results28 hQ rfl ?_)
 exact ⟨rfl,rfl,fun h st=>star_drop st⟩
theorem check_no (hn:num<18446744073709551616) (hd:den<18446744073709551616) (hb:burst<18446744073709551616) (O:¬ BOk num den burst):Tr Try.prog B 28 [.agg #[.int .u64 (num:Nat),.int .u64 (den:Nat),.int .u64 (burst:Nat)]] L x fun v L' x'=>v=.int .i64 2∧L'=L∧x'=x:=by
 have hc:(num<1)∨(1≤num∧65536<num)∨(1≤num∧num≤65536∧den<1)∨(1≤num∧num≤65536∧1≤den∧65536<den)∨(1≤num∧num≤65536∧1≤den∧den≤65536∧burst<1)∨(1≤num∧num≤65536∧1≤den∧den≤65536∧1≤burst∧1048576<burst):=by
  have:¬ (1≤num∧num≤65536∧1≤den∧den≤65536∧1≤burst∧burst≤1048576):=fun ⟨a,b,c,d,e,f⟩=>O ⟨a,b,c,d,e,f⟩
  omega
 refine Tr.post (R:=fun v L' x'=>v=.int .i64 2∧x'=x∧∀ h,Star L' h→Star L h) ?_ (by rintro v L' x' ⟨h0,rfl,hs⟩;exact ⟨L,⟨h0,rfl,rfl⟩,hs⟩)
 refine tr_of_body Try.func28 rfl Try.ntmps28 (by simp) fun um Q _ hQ=>?_
 simp only [argE,Nat.zero_add,Nat.reduceAdd]
 repeat (first | (apply wo_mo;apply mo_box;exact rfl;exact trivial) | refine we_seq ?_ | (refine wR ?_;try simp only [oS]))
 rintro v' L' ⟨bb,rfl,rfl⟩
 refine wo_ent (arr bb 0 [.int .u64 (num:Nat),.int .u64 (den:Nat),.int .u64 (burst:Nat)]::L) .refl ?_
 rcases hc with c | c | c | c | c | c
 all_goals
  repeat (first | refine wlssT ?_ | refine wlssF ?_ | refine wgtrT ?_ | refine wgtrF ?_ | refine we_seq ?_ | (refine wR ?_;try simp only [oS]) | refine wo_nil ?_ | refine wM ?_ | refine wA ?_ | (apply wo_no;exact rfl) | refine wK ?_ | refine wJ ?_ | refine wD ?_ | refine wL ?_ | refine wT ?_ | refine we_ret ?_)
  (first | refine or1 Try.func28 Try.results28 hQ rfl ?_ | refine on1 Try.func28 Try.results28 hQ rfl ?_)
  exact ⟨rfl,rfl,fun h st=>star_drop st⟩
def mayInv (x:B.X) (L:List HProp) (sb cp:Nat):Inv Nat B.X where
 e:=fun i=>[(13,.slice (some ⟨sb,0,none⟩) 1 cp),(14,.int .i64 1),(15,.int .i64 (i:Nat))]
 L:=fun _=>L
 x:=fun _=>x
 ok:=fun i=>i≤1
theorem may_tr {sb cp:Nat} (O:BOk num den burst) (ht:now≤1099511627776) (hr:Rd L sb 0 (.int .u64 (now:Nat))):Tr Try.prog B 50 [.agg #[.int .u64 (num:Nat),.int .u64 (den:Nat),.int .u64 (burst:Nat)],.slice (some ⟨sb,0,none⟩) 1 cp] L x fun v L' x'=>v=.int .i64 0∧L'=L∧x'=x:=by
 refine Tr.post (R:=fun v L' x'=>v=.int .i64 0∧x'=x∧∀ h,Star L' h→Star L h) ?_ (by rintro v L' x' ⟨h0,rfl,hs⟩;exact ⟨L,⟨h0,rfl,rfl⟩,hs⟩)
 refine tr_of_body Try.func50 rfl Try.ntmps50 (by simp) fun um Q _ hQ=>?_
 simp only [argE,Nat.zero_add,Nat.reduceAdd]
 repeat (first | (apply wo_mo;apply mo_box;exact rfl;exact trivial) | refine we_seq ?_ | (refine wR ?_;try simp only [oS]))
 rintro v' L' ⟨bb,rfl,rfl⟩
 refine wo_ent (arr bb 0 [.int .u64 (num:Nat),.int .u64 (den:Nat),.int .u64 (burst:Nat)]::L) .refl ?_
 repeat (first | (apply wo_po;apply mo_loadA (vs:=[.int .u64 (num:Nat),.int .u64 (den:Nat),.int .u64 (burst:Nat)]);exact rfl;exact rfl;exact Rds.all .here;exact trivial) | refine we_seq ?_ | (refine wR ?_;try simp only [oS]) | refine wo_nil ?_ | refine wA ?_)
 refine wo_call (.cons rfl .nil) trivial (check_ok O) ?_
 rintro v L' x' ⟨rfl,rfl,rfl⟩
 repeat (first | refine wneqF ?_ | refine we_seq ?_ | (refine wR ?_;try simp only [oS]) | refine wo_nil ?_ | refine wM ?_ | refine wA ?_ | refine wE ?_ | refine wF ?_ | refine we_skip ?_ | refine we_block ?_)
 refine we_loopN (mayInv x' (arr bb 0 [.int .u64 (num:Nat),.int .u64 (den:Nat),.int .u64 (burst:Nat)]::L) sb cp) (fun i=>2-i) 0 (by show 0≤1;omega) ⟨rfl,rfl,rfl,trivial⟩ .refl rfl ?_
 intro i hi
 dsimp only [mayInv] at hi ⊢
 by_cases c:i<1
 ·have:i=0:=by omega
  subst this
  repeat (first | (apply wo_po;apply mo_indexAddr (r:=0);exact rfl;exact rfl;omega;omega;omega;exact trivial) | (apply wo_po;apply mo_load;exact rfl;exact (Rd.there hr);exact trivial) | refine wlssT ?_ | refine wgtrF ?_ | refine we_seq ?_ | (refine wR ?_;try simp only [oS]) | refine wo_nil ?_ | refine wM ?_ | refine wA ?_ | refine wadd ?_ | refine wT ?_ | refine wF ?_ | refine we_skip ?_ | refine we_block ?_)
  exact at_round (I:=mayInv _ _ sb cp) (R:=fun i'=>2-i'<2-0) 1 (by omega) (by show 1≤1;omega) ⟨rfl,rfl,rfl,trivial⟩ .refl rfl
 ·repeat (first | refine wlssF ?_ | refine we_seq ?_ | (refine wR ?_;try simp only [oS]) | refine wo_nil ?_ | refine wA ?_ | refine wF ?_ | refine we_ret ?_ | refine we_exit ?_)
  (first | refine or1 Try.func50 Try.results50 hQ rfl ?_ | refine on1 Try.func50 Try.results50 hQ rfl ?_)
  exact ⟨rfl,rfl,fun h st=>star_drop st⟩
theorem ahead_tr (O:BOk num den burst) (ht:now≤1099511627776) (hs:s<18446744073709551616):Tr Try.prog B 51 [.agg #[.int .u64 (num:Nat),.int .u64 (den:Nat),.int .u64 (burst:Nat)],.int .u64 (s:Nat),.int .u64 (now:Nat)] L x fun v L' x'=>v=.tuple #[.int .u64 (max s (now*num):Nat),.int .u64 (max s (now*num)-now*num:Nat)]∧L'=L∧x'=x:=by
 have hm:now*num≤1099511627776*65536:=Nat.mul_le_mul ht O.n2
 have m1:IntKind.u64.wrap ((now:Int)*(num:Int))=((now*num:Nat):Int):=mulw rfl (by omega)
 generalize now*num=ck at *
 have s1:IntKind.u64.wrap (((max s ck:Nat):Int)-(ck:Int))=((max s ck-ck:Nat):Int):=subw (by omega) (by omega)
 refine Tr.post (R:=fun v L' x'=>v=.tuple #[.int .u64 (max s ck:Nat),.int .u64 (max s ck-ck:Nat)]∧x'=x∧∀ h,Star L' h→Star L h) ?_ (by rintro v L' x' ⟨h0,rfl,hs⟩;exact ⟨L,⟨h0,rfl,rfl⟩,hs⟩)
 refine tr_of_body Try.func51 rfl Try.ntmps51 (by simp) fun um Q _ hQ=>?_
 simp only [argE,Nat.zero_add,Nat.reduceAdd]
 repeat (first | (apply wo_mo;apply mo_box;exact rfl;exact trivial) | refine we_seq ?_ | (refine wR ?_;try simp only [oS]))
 rintro v' L' ⟨bb,rfl,rfl⟩
 refine wo_ent (arr bb 0 [.int .u64 (num:Nat),.int .u64 (den:Nat),.int .u64 (burst:Nat)]::L) .refl ?_
 repeat (first | (apply wo_po;apply mo_bin;exact rfl;exact rfl;apply bin_mul;(first | exact m1);exact gY) | (apply wo_po;apply mo_bin;exact rfl;exact rfl;apply bin_sub;(first | exact s1);exact gY) | (apply wo_po;apply mo_maxN (c:=max s ck);exact rfl;exact rfl;exact rfl;exact trivial) | refine we_seq ?_ | (refine wR ?_;try simp only [oS]) | refine wo_nil ?_ | refine wM ?_ | refine wA ?_ | refine wD ?_ | refine wL ?_ | refine we_ret ?_)
 (first | refine or2 Try.func51 Try.results51 hQ rfl rfl ?_ | refine on2 Try.func51 Try.results51 hQ rfl rfl ?_)
 exact ⟨rfl,rfl,fun h st=>star_drop st⟩
theorem times_tr {a b:Nat} (ha:a<18446744073709551616) (hb:b<18446744073709551616):Tr Try.prog B 52 [.int .u64 (a:Nat),.int .u64 (b:Nat)] L x fun v L' x'=>v=.agg #[.int .u64 (a*b/18446744073709551616:Nat),.int .u64 (a*b%18446744073709551616:Nat)]∧L'=L∧x'=x:=by
 refine Tr.post (R:=fun v L' x'=>v=.agg #[.int .u64 (a*b/18446744073709551616:Nat),.int .u64 (a*b%18446744073709551616:Nat)]∧x'=x∧∀ h,Star L' h→Star L h) ?_ (by rintro v L' x' ⟨h0,rfl,hs⟩;exact ⟨L,⟨h0,rfl,rfl⟩,hs⟩)
 refine tr_of_body Try.func52 rfl Try.ntmps52 (by simp) fun um Q _ hQ=>?_
 simp only [argE,Nat.zero_add,Nat.reduceAdd]
 repeat (first | (apply wo_mo;apply mo_alloc;exact trivial) | refine we_seq ?_ | (refine wR ?_;try simp only [oS]))
 rintro v' L' ⟨cb,rfl,rfl⟩
 repeat (first | refine we_seq ?_ | (refine wR ?_;try simp only [oS]) | refine wo_nil ?_ | refine wM ?_)
 refine wo_call (.cons rfl (.cons rfl .nil)) trivial (mul64_tr ha hb) ?_
 rintro v' L' x' ⟨rfl,rfl,rfl⟩
 repeat (first | (apply wo_po;apply mo_build (pv:=[(0,_),(1,_)]);exact rfl;exact .cons rfl (.cons rfl .nil);exact rfl;exact trivial) | (apply wo_pm;apply mo_storeA (b:=cb) (c:=0) (k:=0) (a:=0) (vs:=[.int .u64 0,.int .u64 0]);exact rfl;exact rfl;exact rfl;(intro w hw;simp [Value.cells] at hw;rcases hw with rfl | rfl <;> rfl);exact rfl;exact Nat.le_refl 2;exact .here;exact trivial) | refine we_seq ?_ | (refine wR ?_;try simp only [oS]) | refine wo_nil ?_ | refine wM ?_ | refine wA ?_ | (apply wo_po;apply mo_extract;exact rfl;exact rfl;exact gY) | refine we_ret ?_)
 refine at_leaveM (rs:=[.cell 4 133]) Try.func52 Try.results52 hQ (.inl rfl) (.cons (.cell (vs:=[.int .u64 (a*b/18446744073709551616:Nat),.int .u64 (a*b%18446744073709551616:Nat)]) rfl rfl (Rds.all .here)) .nil) ?_
 exact ⟨rfl,rfl,fun h st=>star_drop st⟩
theorem wadd_tr (e1:h1<18446744073709551616) (e2:l1<18446744073709551616) (e3:l2<18446744073709551616) (e4:h1+1<18446744073709551616) (hh:Has L (arr wb 0 [.int .u64 (h1:Nat),.int .u64 (l1:Nat)]) F):Tr Try.prog B 53 [.pointer (some ⟨wb,0,none⟩),.agg #[.int .u64 0,.int .u64 (l2:Nat)]] L x fun v L' x'=>v=.tuple #[]∧L'=arr wb 0 [.int .u64 (h1+(l1+l2)/18446744073709551616:Nat),.int .u64 ((l1+l2)%18446744073709551616:Nat)]::F∧x'=x:=by
 refine Tr.post (R:=fun v L' x'=>v=.tuple #[]∧x'=x∧∀ h,Star L' h→Star (arr wb 0 [.int .u64 (h1+(l1+l2)/18446744073709551616:Nat),.int .u64 ((l1+l2)%18446744073709551616:Nat)]::F) h) ?_ (by rintro v L' x' ⟨h0,rfl,hs⟩;exact ⟨_,⟨h0,rfl,rfl⟩,hs⟩)
 refine tr_star (arr wb 0 [.int .u64 (h1:Nat),.int .u64 (l1:Nat)]::F) (fun h st=>hh.star st) ?_
 have s1:IntKind.u64.wrap ((h1:Int)+(0:Int))=(h1:Int):=wrap_u64 (by omega) (by omega)
 have hc:(l1+l2)/18446744073709551616≤1:=by omega
 have s2:IntKind.u64.wrap ((h1:Int)+(((l1+l2)/18446744073709551616:Nat):Int))=((h1+(l1+l2)/18446744073709551616:Nat):Int):=addw rfl (by omega)
 have hadd:=fun (L:List HProp)=>at_add64 (P:=Try.prog) (L:=L) (a:=l1) (b:=l2)
 generalize (l1+l2)/18446744073709551616=cy at *
 generalize (l1+l2)%18446744073709551616=lo at *
 refine tr_of_body Try.func53 rfl Try.ntmps53 (by simp) fun um Q _ hQ=>?_
 simp only [argE,Nat.zero_add,Nat.reduceAdd]
 repeat (first | (apply wo_mo;apply mo_box;exact rfl;exact trivial) | refine we_seq ?_ | (refine wR ?_;try simp only [oS]))
 rintro v' L' ⟨vb,rfl,rfl⟩
 refine wo_ent (arr vb 0 [.int .u64 0,.int .u64 (l2:Nat)]::arr wb 0 [.int .u64 (h1:Nat),.int .u64 (l1:Nat)]::F) .refl ?_
 repeat (first | refine we_seq ?_ | (refine wR ?_;try simp only [oS]) | refine wo_nil ?_ | refine wA ?_)
 refine we_draw (List.range' 0 15) (by kernel_rfl) ?_
 repeat (first | refine aM ?_ | refine aN ?_ | refine aD ?_ | refine aL ?_)
 refine ap_loud rfl rfl rfl rfl rfl trivial (mo_ext (args:=[_,_,_]) (.cons rfl (.cons rfl (.cons rfl .nil))) (hadd _)) ?_
 rintro v' L' ⟨rfl,rfl⟩
 repeat (first | refine aM ?_ | refine aN ?_ | refine aD ?_ | (apply ap_pure;exact rfl;exact rfl;exact gY;intro L;apply mo_extract;exact rfl;exact rfl))
 refine ap_loud rfl rfl rfl rfl rfl trivial (mo_store rfl rfl rfl (Wt.row (k:=1) (vs:=[.int .u64 (h1:Nat),.int .u64 (l1:Nat)]) (Nat.lt_succ_self 1) rfl (.there .here))) ?_
 rintro v' L' ⟨rfl,rfl⟩
 repeat (first | refine aA ?_ | refine ap_end ?_)
 repeat (first | refine we_seq ?_)
 refine we_draw (List.range' 0 10) (by kernel_rfl) ?_
 repeat (first | (apply ap_pure;exact rfl;exact rfl;exact gY;intro L;apply mo_bin;exact rfl;exact rfl;apply bin_add;exact s1) | refine aM ?_ | refine aN ?_ | refine aD ?_ | refine aL ?_)
 refine ap_loud rfl rfl rfl rfl rfl trivial (mo_store rfl rfl rfl (Wt.row0 (k:=0) (.there .here) (by simp))) ?_
 rintro v' L' ⟨rfl,rfl⟩
 repeat (first | refine ap_end ?_)
 repeat (first | (apply wo_po;apply mo_bin;exact rfl;exact rfl;apply bin_add;(first | exact s2);exact gY) | refine wS ?_ | (refine wR ?_;try simp only [oS]) | refine wo_nil ?_ | refine wM ?_ | refine wN ?_ | refine wD ?_ | refine wL ?_)
 (first | refine or0 Try.func53 Try.results53 hQ ?_ | refine on0 Try.func53 Try.results53 hQ ?_)
 exact ⟨rfl,rfl,fun h st=>Ent.star (.take (.there .here) (.drop .refl)) st⟩
theorem above_tr (e1:l1<18446744073709551616) (e2:l2<18446744073709551616) {q:Bool} (hq:q=decide (h2*18446744073709551616+l2<h1*18446744073709551616+l1)):Tr Try.prog B 54 [.agg #[.int .u64 (h1:Nat),.int .u64 (l1:Nat)],.agg #[.int .u64 (h2:Nat),.int .u64 (l2:Nat)]] L x fun v L' x'=>v=.bool q∧L'=L∧x'=x:=by
 refine Tr.post (R:=fun v L' x'=>v=.bool q∧x'=x∧∀ h,Star L' h→Star L h) ?_ (by rintro v L' x' ⟨h0,rfl,hs⟩;exact ⟨L,⟨h0,rfl,rfl⟩,hs⟩)
 have hc:(h2<h1∧q=true)∨(h1=h2∧l2<l1∧q=true)∨(h1=h2∧l1≤l2∧q=false)∨(h1<h2∧q=false):=by
  rcases Nat.lt_trichotomy h1 h2 with c | c | c
  ·exact .inr (.inr (.inr ⟨c,by rw [hq];exact decide_eq_false (by omega)⟩))
  ·by_cases d:l2<l1
   ·exact .inr (.inl ⟨c,d,by rw [hq];exact decide_eq_true (by omega)⟩)
   ·exact .inr (.inr (.inl ⟨c,by omega,by rw [hq];exact decide_eq_false (by omega)⟩))
  ·exact .inl ⟨c,by rw [hq];exact decide_eq_true (by omega)⟩
 clear hq
 refine tr_of_body Try.func54 rfl Try.ntmps54 (by simp) fun um Q _ hQ=>?_
 simp only [argE,Nat.zero_add,Nat.reduceAdd]
 repeat (first | (apply wo_mo;apply mo_box;exact rfl;exact trivial) | refine we_seq ?_ | (refine wR ?_;try simp only [oS]))
 rintro v' L' ⟨ab,rfl,rfl⟩
 refine wo_ent (arr ab 0 [.int .u64 (h1:Nat),.int .u64 (l1:Nat)]::L) .refl ?_
 repeat (first | (apply wo_mo;apply mo_box;exact rfl;exact trivial))
 rintro v' L' ⟨cb,rfl,rfl⟩
 refine wo_ent (arr cb 0 [.int .u64 (h2:Nat),.int .u64 (l2:Nat)]::arr ab 0 [.int .u64 (h1:Nat),.int .u64 (l1:Nat)]::L) .refl ?_
 rcases hc with ⟨c,rfl⟩ | ⟨c,d,rfl⟩ | ⟨c,d,rfl⟩ | ⟨c,rfl⟩
 all_goals
  repeat (first | refine wgtrT ?_ | refine wgtrF ?_ | refine weqlT ?_ | refine weqlF ?_ | refine we_seq ?_ | (refine wR ?_;try simp only [oS]) | refine wo_nil ?_ | refine wM ?_ | refine wA ?_ | (apply wo_no;exact rfl) | (apply wo_nu;exact rfl) | refine wK ?_ | refine wJ ?_ | refine wD ?_ | refine wL ?_ | refine we_ret ?_)
  (first | refine or1 Try.func54 Try.results54 hQ rfl ?_ | refine on1 Try.func54 Try.results54 hQ rfl ?_)
  exact ⟨rfl,rfl,fun h st=>star_drop (star_drop st)⟩
set_option maxHeartbeats 2000000 in
theorem btake_tr (O:BOk num den burst) (ht:now≤1099511627776) (hs:s<18446744073709551616) (hn:n<18446744073709551616) {r:Option Nat} (hr:takeN num den burst s now n=r):Tr Try.prog B 31 [.agg #[.int .u64 (num:Nat),.int .u64 (den:Nat),.int .u64 (burst:Nat)],.int .u64 (s:Nat),.int .u64 (now:Nat),.int .u64 (n:Nat)] L x fun v L' x'=>v=takeR s r∧L'=L∧x'=x:=by
 refine Tr.post (R:=fun v L' x'=>v=takeR s r∧x'=x∧∀ h,Star L' h→Star L h) ?_ (by rintro v L' x' ⟨h0,rfl,hs⟩;exact ⟨L,⟨h0,rfl,rfl⟩,hs⟩)
 refine tr_of_body Try.func31 rfl Try.ntmps31 (by simp) fun um Q _ hQ=>?_
 simp only [argE,Nat.zero_add,Nat.reduceAdd]
 repeat (first | (apply wo_mo;apply mo_box;exact rfl;exact trivial) | refine we_seq ?_ | (refine wR ?_;try simp only [oS]))
 rintro v' L' ⟨bb,rfl,rfl⟩
 refine wo_ent (arr bb 0 [.int .u64 (num:Nat),.int .u64 (den:Nat),.int .u64 (burst:Nat)]::L) .refl ?_
 repeat (first | (apply wo_po;apply mo_loadA (vs:=[.int .u64 (num:Nat),.int .u64 (den:Nat),.int .u64 (burst:Nat)]);exact rfl;exact rfl;exact Rds.all .here;exact trivial) | (apply wo_mo;apply mo_buildSlice (sz:=1) (vs:=[_]);exact rfl;exact .cons rfl .nil;exact rfl;(intro v hv;cases (List.mem_singleton.1 hv);exact rfl);omega;exact trivial) | refine we_seq ?_ | (refine wR ?_;try simp only [oS]) | refine wo_nil ?_ | refine wM ?_ | refine wA ?_)
 rintro v' L' ⟨sb,rfl,rfl⟩
 refine wo_ent (arr sb 0 [.int .u64 (now:Nat)]::arr bb 0 [.int .u64 (num:Nat),.int .u64 (den:Nat),.int .u64 (burst:Nat)]::L) .refl ?_
 skip
 refine wo_call (.cons rfl (.cons rfl .nil)) trivial (may_tr O ht (Rd.row (k:=0) rfl rfl)) ?_
 rintro v' L' x' ⟨rfl,rfl,rfl⟩
 repeat (first | (apply wo_po;apply mo_loadA (vs:=[.int .u64 (num:Nat),.int .u64 (den:Nat),.int .u64 (burst:Nat)]);exact rfl;exact rfl;exact Rds.all (.there .here);exact trivial) | refine wneqF ?_ | refine we_seq ?_ | (refine wR ?_;try simp only [oS]) | refine wo_nil ?_ | refine wM ?_ | refine wA ?_ | refine wF ?_ | refine we_skip ?_)
 refine wo_call (.cons rfl (.cons rfl (.cons rfl .nil))) trivial (ahead_tr O ht hs) ?_
 rintro v' L' x' ⟨rfl,rfl,rfl⟩
 have hm:now*num≤1099511627776*65536:=Nat.mul_le_mul ht O.n2
 have hbd:burst*den≤1048576*65536:=Nat.mul_le_mul O.b2 O.d2
 have hnd:n*den≤18446744073709551615*65536:=Nat.mul_le_mul (by omega) O.d2
 have hd1:=O.d1
 have hd2:=O.d2
 have m1:IntKind.u64.wrap ((burst:Int)*(den:Int))=((burst*den:Nat):Int):=mulw rfl (by omega)
 unfold takeN at hr
 have hT:=times_tr (B:=B) (x:=x') (L:=arr sb 0 [.int .u64 (now:Nat)]::arr bb 0 [.int .u64 (num:Nat),.int .u64 (den:Nat),.int .u64 (burst:Nat)]::L) (a:=n) (b:=den) hn (by omega)
 generalize burst*den=bd at *
 generalize hck:now*num=ck at *
 generalize n*den=nd at *
 obtain ⟨hi,hhi⟩:∃ hi,nd/18446744073709551616=hi:=⟨_,rfl⟩
 obtain ⟨lo,hlo⟩:∃ lo,nd%18446744073709551616=lo:=⟨_,rfl⟩
 obtain ⟨t,htt⟩:∃ t,max s ck=t:=⟨_,rfl⟩
 rw [htt] at hr ⊢
 rw [hhi,hlo] at hT
 have ht64:t<18446744073709551616:=by omega
 have hsum:nd=hi*18446744073709551616+lo:=by omega
 repeat (first | refine we_seq ?_ | (refine wR ?_;try simp only [oS]) | refine wo_nil ?_ | refine wM ?_ | refine wA ?_ | refine wD ?_ | (apply wo_po;apply mo_extract;exact rfl;exact rfl;exact gY) | refine wL ?_)
 refine wo_call (.cons rfl (.cons rfl .nil)) trivial hT ?_
 rintro v' L' x2 ⟨rfl,rfl,rfl⟩
 repeat (first | (apply wo_mo;apply mo_alloc;exact trivial))
 rintro v' L' ⟨nb,rfl,rfl⟩
 repeat (first | (apply wo_pm;apply mo_storeA (c:=0) (k:=0) (a:=0) (vs:=[.int .u64 0,.int .u64 0]);exact rfl;exact rfl;exact rfl;(intro w hw;simp [Value.cells] at hw;rcases hw with rfl | rfl <;> rfl);exact rfl;exact Nat.le_refl 2;exact .here;exact trivial) | refine we_seq ?_ | (refine wR ?_;try simp only [oS]) | refine wo_nil ?_)
 refine wo_ent (arr nb 0 [.int .u64 (hi:Nat),.int .u64 (lo:Nat)]::arr sb 0 [.int .u64 (now:Nat)]::arr bb 0 [.int .u64 (num:Nat),.int .u64 (den:Nat),.int .u64 (burst:Nat)]::L) .refl ?_
 repeat (first | (apply wo_po;apply mo_loadA (vs:=[.int .u64 (hi:Nat),.int .u64 (lo:Nat)]);exact rfl;exact rfl;exact Rds.all .here;exact trivial) | (apply wo_mo;apply mo_alloc;exact trivial))
 rintro v' L' ⟨ab,rfl,rfl⟩
 repeat (first | (apply wo_pm;apply mo_storeA (c:=0) (k:=0) (a:=0) (vs:=[.int .u64 0,.int .u64 0]);exact rfl;exact rfl;exact rfl;(intro w hw;simp [Value.cells] at hw;rcases hw with rfl | rfl <;> rfl);exact rfl;exact Nat.le_refl 2;exact .here;exact trivial) | refine we_seq ?_ | (refine wR ?_;try simp only [oS]) | refine wo_nil ?_ | refine wM ?_)
 refine wo_ent (arr ab 0 [.int .u64 (hi:Nat),.int .u64 (lo:Nat)]::arr nb 0 [.int .u64 (hi:Nat),.int .u64 (lo:Nat)]::arr sb 0 [.int .u64 (now:Nat)]::arr bb 0 [.int .u64 (num:Nat),.int .u64 (den:Nat),.int .u64 (burst:Nat)]::L) .refl ?_
 repeat (first | (apply wo_po;apply mo_build (pv:=[(0,_),(1,_)]);exact rfl;exact .cons rfl (.cons rfl .nil);exact rfl;exact trivial))
 refine wo_call (.cons rfl (.cons rfl .nil)) trivial (wadd_tr (by omega) (by omega) (by omega) (by omega) .here) ?_
 rintro v' L' x3 ⟨rfl,rfl,rfl⟩
 obtain ⟨hi2,hhi2⟩:∃ hi2,hi+(lo+(t-ck))/18446744073709551616=hi2:=⟨_,rfl⟩
 obtain ⟨lo2,hlo2⟩:∃ lo2,(lo+(t-ck))%18446744073709551616=lo2:=⟨_,rfl⟩
 rw [hhi2,hlo2]
 repeat (first | (apply wo_po;apply mo_loadA (vs:=[.int .u64 (hi2:Nat),.int .u64 (lo2:Nat)]);exact rfl;exact rfl;exact Rds.all .here;exact trivial) | (apply wo_po;apply mo_bin;exact rfl;exact rfl;apply bin_mul;(first | exact m1);exact gY) | (apply wo_po;apply mo_build (pv:=[(0,_),(1,_)]);exact rfl;exact .cons rfl (.cons rfl .nil);exact rfl;exact trivial) | refine we_seq ?_ | (refine wR ?_;try simp only [oS]) | refine wo_nil ?_ | refine wD ?_ | refine wL ?_)
 refine wo_call (.cons rfl (.cons rfl .nil)) trivial (above_tr (h1:=hi2) (l1:=lo2) (h2:=0) (l2:=bd) (by omega) (by omega) (q:=decide (bd<nd+(t-ck))) (by congr 1;apply propext;omega)) ?_
 rintro v' L' x4 ⟨rfl,rfl,rfl⟩
 by_cases c:bd<nd+(t-ck)
 ·rw [if_pos c] at hr
  subst hr
  rw [decide_eq_true c]
  repeat (first | refine we_seq ?_ | (refine wR ?_;try simp only [oS]) | refine wo_nil ?_ | refine wM ?_ | refine wA ?_ | refine wT ?_ | refine we_ret ?_)
  (first | refine or3 Try.func31 Try.results31 hQ rfl rfl rfl ?_ | refine on3 Try.func31 Try.results31 hQ rfl rfl rfl ?_)
  exact ⟨rfl,rfl,fun h st=>Ent.star (.drop (.drop (.drop (.drop .refl)))) st⟩
 ·rw [if_neg c] at hr
  subst hr
  rw [decide_eq_false c]
  have a1:IntKind.u64.wrap ((t:Int)+(lo:Int))=(((t+nd)%18446744073709551616:Nat):Int):=(wrap_u64_mod _).trans (by omega)
  repeat (first | (apply wo_po;apply mo_bin;exact rfl;exact rfl;apply bin_add;(first | exact a1);exact gY) | refine we_seq ?_ | (refine wR ?_;try simp only [oS]) | refine wo_nil ?_ | refine wM ?_ | refine wA ?_ | refine wD ?_ | refine wL ?_ | refine wF ?_ | refine we_ret ?_ | refine we_skip ?_)
  (first | refine or3 Try.func31 Try.results31 hQ rfl rfl rfl ?_ | refine on3 Try.func31 Try.results31 hQ rfl rfl rfl ?_)
  exact ⟨rfl,rfl,fun h st=>Ent.star (.drop (.drop (.drop (.drop .refl)))) st⟩
end
end
section
structure MeterAt {B:Hand} {gv:Value} (A:Acc B gv) (r num den burst:Nat):Prop where
 ok:BOk num den burst
 hdr:∀ s,Rds [A.C s] r 0 [.int .u64 (num:Nat),.int .u64 (den:Nat),.int .u64 (burst:Nat)]
 a:A.addr 0=(r,3)
theorem takeN_lt {num den burst s now n t:Nat} (h:takeN num den burst s now n=some t):t<18446744073709551616:=by
 unfold takeN at h
 split at h
 ·cases h
 ·cases h;exact Nat.mod_lt _ (by decide)
section
variable {B:Hand} [Lets B] {gv:Value} {A:Acc B gv} {r num den burst now n:Nat} {L F:List HProp}
omit [Lets B] in
theorem MeterAt.rds (R:MeterAt A r num den burst) {s:A.S} (hh:Has L (A.C s) F):Rds L r 0 [.int .u64 (num:Nat),.int .u64 (den:Nat),.int .u64 (burst:Nat)]:=fun i v hv=>Rd.of hh (R.hdr s i v hv)
theorem step_tr {op:Int} {s:A.S} {T:A.S→Prop} (hs:A.step op 0 s T) (hh:Has L (A.C s) F) :
  Tr Try.prog B 30 [gv,.int .u8 op] L (A.x s) fun v L' x'=>∃ s',T s'∧v=.tuple #[]∧L'=A.C s'::F∧x'=A.x s':=by
 rcases A.gate with ⟨rfl,hg⟩ | ⟨t,p,f,rfl,hm,he,hg⟩
 ·refine tr_of_body Try.func30 rfl Try.ntmps30 (by simp) fun um Q _ hQ=>?_
  simp only [argE,Nat.zero_add,Nat.reduceAdd]
  repeat (first | refine we_seq ?_ | (refine wR ?_;try simp only [oS]) | refine wo_nil ?_ | refine wM ?_ | (apply wo_po;apply mo_bin;exact rfl;exact rfl;apply bin_ne;apply eql_nil_nil;exact gY) | refine wF ?_ | refine we_skip ?_)
  refine at_ent _ (Ent.take hh .refl) ?_
  (first | refine or0 Try.func30 Try.results30 hQ ?_ | refine on0 Try.func30 Try.results30 hQ ?_)
  exact ⟨s,hg _ _ _ _ hs,rfl,rfl,rfl⟩
 ·refine tr_of_body Try.func30 rfl Try.ntmps30 (by simp) fun um Q _ hQ=>?_
  simp only [argE,Nat.zero_add,Nat.reduceAdd]
  repeat (first | (apply wo_po;apply mo_build (pv:=[(0,_)]);exact rfl;exact .cons rfl .nil;exact rfl;exact trivial) | refine we_seq ?_ | (refine wR ?_;try simp only [oS]) | refine wo_nil ?_ | refine wM ?_ | (apply wo_po;apply mo_bin;exact rfl;exact rfl;apply bin_ne;apply eql_iface_nil;exact gY) | refine wT ?_)
  refine wo_invoke (args:=[_]) rfl (.cons rfl .nil) trivial (hg op 0 s T L F hs hh) ?_
  rintro v L' x' ⟨s',h1,rfl,rfl,rfl⟩
  repeat (first | refine wo_nil ?_)
  (first | refine or0 Try.func30 Try.results30 hQ ?_ | refine on0 Try.func30 Try.results30 hQ ?_)
  exact ⟨s',h1,rfl,rfl,rfl⟩
theorem there_tr {x:B.X} (O:BOk num den burst) (hr:Rds L r 0 [.int .u64 (num:Nat),.int .u64 (den:Nat),.int .u64 (burst:Nat)]):Tr Try.prog B 49 [.pointer (some ⟨r,0,none⟩)] L x fun v L' x'=>v=.bool true∧L'=L∧x'=x:=by
 have hr2:=hr 2 _ rfl
 have hb:=O.b1
 refine tr_of_body Try.func49 rfl Try.ntmps49 (by simp) fun um Q _ hQ=>?_
 simp only [argE,Nat.zero_add,Nat.reduceAdd]
 repeat (first | (apply wo_po;apply mo_load;exact rfl;exact hr2;exact rfl) | refine wgtrT ?_ | refine we_seq ?_ | (refine wR ?_;try simp only [oS]) | refine wo_nil ?_ | refine wM ?_ | refine wA ?_ | refine wK ?_ | refine wN ?_ | refine wD ?_ | (apply wo_po;apply mo_bin;exact rfl;exact rfl;apply bin_ne;apply eql_ptr_nil;exact gY) | refine we_ret ?_)
 (first | refine or1 Try.func49 Try.results49 hQ rfl ?_ | refine on1 Try.func49 Try.results49 hQ rfl ?_)
 exact ⟨rfl,rfl,rfl⟩
theorem mmay_tr {x:B.X} (O:BOk num den burst) (ht:now≤1099511627776) (hr:Rds L r 0 [.int .u64 (num:Nat),.int .u64 (den:Nat),.int .u64 (burst:Nat)]):Tr Try.prog B 29 [.pointer (some ⟨r,0,none⟩),.int .u64 (now:Nat)] L x fun v L' x'=>v=.int .i64 0∧L'=L∧x'=x:=by
 refine tr_of_body Try.func29 rfl Try.ntmps29 (by simp) fun um Q _ hQ=>?_
 simp only [argE,Nat.zero_add,Nat.reduceAdd]
 repeat (first | refine we_seq ?_ | (refine wR ?_;try simp only [oS]) | refine wo_nil ?_ | refine wM ?_ | refine wA ?_ | refine we_block ?_)
 refine wo_call (.cons rfl .nil) trivial (there_tr O hr) ?_
 rintro v L1 x1 ⟨rfl,rfl,rfl⟩
 repeat (first | refine wgtrF ?_ | refine we_seq ?_ | (refine wR ?_;try simp only [oS]) | refine wo_nil ?_ | refine wM ?_ | refine wA ?_ | (apply wo_po;apply mo_not;exact rfl;exact gY) | refine wF ?_ | refine we_ret ?_ | refine we_skip ?_)
 (first | refine or1 Try.func29 Try.results29 hQ rfl ?_ | refine on1 Try.func29 Try.results29 hQ rfl ?_)
 exact ⟨rfl,rfl,rfl⟩
def MTakeF (A:Acc B gv) (num den burst now n:Nat) (Q:Bool→A.S→Prop) (X:A.S→Prop) (s:A.S):Prop :=
 A.step 1 0 s fun s=>A.load 0 s fun o s=>match takeN num den burst o now n with
  | none=>Q false s
  | some t=>A.step 5 0 s fun s=>A.cas 0 o t s fun c s=>if c then Q true s else X s
def MTakeT (A:Acc B gv) (num den burst now n:Nat) (s:A.S) (Q:Bool→A.S→Prop):Prop:=∀ X:A.S→Prop,(∀ s,MTakeF A num den burst now n Q X s→X s)→X s
theorem mtake_tr (R:MeterAt A r num den burst) (ht:now≤1099511627776) (hn:n<18446744073709551616) {s:A.S} {G:Bool→A.S→Prop} (hs:MTakeT A num den burst now n s G) (hh:Has L (A.C s) F) :
  Tr Try.prog B 16 [.pointer (some ⟨r,0,none⟩),gv,.int .u64 (now:Nat),.int .u64 (n:Nat)] L (A.x s) fun v L' x'=>∃ q s',G q s'∧v=.tuple #[.bool q,.int .i64 0]∧L'=A.C s'::F∧x'=A.x s':=by
 refine tr_of_body Try.func16 rfl Try.ntmps16 (by simp) fun um Q _ hQ=>?_
 simp only [argE,Nat.zero_add,Nat.reduceAdd]
 repeat (first | refine we_seq ?_ | (refine wR ?_;try simp only [oS]) | refine wo_nil ?_ | refine wM ?_ | refine wA ?_)
 refine wo_call (.cons rfl (.cons rfl .nil)) trivial (mmay_tr R.ok ht (R.rds hh)) ?_
 rintro v1 L1 x1 ⟨rfl,rfl,rfl⟩
 repeat (first | refine wneqF ?_ | refine we_seq ?_ | (refine wR ?_;try simp only [oS]) | refine wo_nil ?_ | refine wM ?_ | refine wA ?_ | refine wF ?_ | refine we_skip ?_ | refine we_block ?_)
 refine we_lfp (MTakeF A num den burst now n G) (fun s=>A.C s::F) A.x s hs [(0,.pointer (some ⟨r,0,none⟩)),(1,gv),(2,.int .u64 (now:Nat)),(3,.int .u64 (n:Nat))] ⟨rfl,rfl,rfl,rfl,trivial⟩ (.take hh .refl) rfl ?_
 clear hs hh
 intro s hs
 repeat (first | refine we_seq ?_ | (refine wR ?_;try simp only [oS]) | refine wM ?_ | refine we_block ?_)
 refine wo_call (.cons rfl (.cons rfl .nil)) trivial (step_tr hs .here) ?_
 rintro v1 L1 x1 ⟨s1,h1,rfl,rfl,rfl⟩
 repeat (first | refine we_seq ?_ | (refine wR ?_;try simp only [oS]) | refine wo_nil ?_ | refine wM ?_ | refine wN ?_ | refine wD ?_)
 refine wo_call (.cons rfl .nil) trivial (A.load_ok _ _ _ _ _ _ _ R.a h1 .here) ?_
 rintro v1 L1 x1 ⟨o,s2,ho,h2,rfl,rfl,rfl⟩
 have hrd:Rds (A.C s2::F) r 0 [.int .u64 (num:Nat),.int .u64 (den:Nat),.int .u64 (burst:Nat)]:=R.rds .here
 obtain ⟨tk,htk⟩:∃ tk,takeN num den burst o now n=tk:=⟨_,rfl⟩
 rw [htk] at h2
 repeat (first | (apply wo_po;apply mo_loadA (vs:=[.int .u64 (num:Nat),.int .u64 (den:Nat),.int .u64 (burst:Nat)]);exact rfl;exact rfl;exact hrd;exact trivial) | refine we_seq ?_ | (refine wR ?_;try simp only [oS]) | refine wo_nil ?_ | refine wM ?_ | refine wA ?_ | refine wN ?_ | refine wD ?_)
 refine wo_call (.cons rfl (.cons rfl (.cons rfl (.cons rfl .nil)))) trivial (btake_tr R.ok ht ho hn htk) ?_
 rintro v1 L1 x1 ⟨rfl,rfl,rfl⟩
 cases tk with
 | none =>
  unfold takeR
  repeat (first | refine we_seq ?_ | (refine wR ?_;try simp only [oS]) | refine wo_nil ?_ | refine wM ?_ | refine wA ?_ | (apply wo_po;apply mo_extract;exact rfl;exact rfl;exact gY) | (apply wo_po;apply mo_not;exact rfl;exact gY) | refine wT ?_ | refine we_ret ?_)
  (first | refine or2 Try.func16 Try.results16 hQ rfl rfl ?_ | refine on2 Try.func16 Try.results16 hQ rfl rfl ?_)
  exact ⟨false,s2,h2,rfl,rfl,rfl⟩
 | some t =>
  unfold takeR
  dsimp only at h2
  repeat (first | refine we_seq ?_ | (refine wR ?_;try simp only [oS]) | refine wo_nil ?_ | refine wM ?_ | refine wA ?_ | (apply wo_po;apply mo_extract;exact rfl;exact rfl;exact gY) | (apply wo_po;apply mo_not;exact rfl;exact gY) | refine wF ?_ | refine we_skip ?_)
  refine wo_call (.cons rfl (.cons rfl .nil)) trivial (step_tr h2 .here) ?_
  rintro v1 L1 x1 ⟨s3,h3,rfl,rfl,rfl⟩
  repeat (first | refine we_seq ?_ | (refine wR ?_;try simp only [oS]) | refine wo_nil ?_ | refine wM ?_ | refine wN ?_ | refine wD ?_)
  refine wo_call (.cons rfl (.cons rfl (.cons rfl .nil))) trivial (A.cas_ok _ _ _ _ _ _ _ _ _ R.a (takeN_lt htk) h3 .here) ?_
  rintro v1 L1 x1 ⟨q,s4,h4,rfl,rfl,rfl⟩
  cases q
  ·simp only [Bool.false_eq_true,if_false] at h4
   repeat (first | refine wo_nil ?_ | refine wF ?_ | refine we_skip ?_)
   exact at_again h4 ⟨rfl,rfl,rfl,rfl,trivial⟩ .refl
  ·simp only [if_true] at h4
   repeat (first | refine we_seq ?_ | (refine wR ?_;try simp only [oS]) | refine wo_nil ?_ | refine wA ?_ | refine wT ?_ | refine we_ret ?_)
   (first | refine or2 Try.func16 Try.results16 hQ rfl rfl ?_ | refine on2 Try.func16 Try.results16 hQ rfl rfl ?_)
   exact ⟨true,s4,h4,rfl,rfl,rfl⟩
theorem mnew_tr {x:B.X} (O:BOk num den burst):Tr Try.prog B 15 [.agg #[.int .u64 (num:Nat),.int .u64 (den:Nat),.int .u64 (burst:Nat)]] L x fun v L' x'=>∃ r,v=.tuple #[.pointer (some ⟨r,0,none⟩),.int .i64 0]∧L'=arr r 0 [.int .u64 (num:Nat),.int .u64 (den:Nat),.int .u64 (burst:Nat),.int .u64 0]::L∧x'=x:=by
 refine Tr.post (R:=fun v L' x'=>∃ r,v=.tuple #[.pointer (some ⟨r,0,none⟩),.int .i64 0]∧x'=x∧∀ h,Star L' h→Star (arr r 0 [.int .u64 (num:Nat),.int .u64 (den:Nat),.int .u64 (burst:Nat),.int .u64 0]::L) h) ?_ (by rintro v L' x' ⟨r,h0,rfl,hs⟩;exact ⟨_,⟨r,h0,rfl,rfl⟩,hs⟩)
 refine tr_of_body Try.func15 rfl Try.ntmps15 (by simp) fun um Q _ hQ=>?_
 simp only [argE,Nat.zero_add,Nat.reduceAdd]
 repeat (first | (apply wo_mo;apply mo_box;exact rfl;exact trivial) | refine we_seq ?_ | (refine wR ?_;try simp only [oS]))
 rintro v' L' ⟨bb,rfl,rfl⟩
 refine wo_ent (arr bb 0 [.int .u64 (num:Nat),.int .u64 (den:Nat),.int .u64 (burst:Nat)]::L) .refl ?_
 repeat (first | (apply wo_po;apply mo_loadA (vs:=[.int .u64 (num:Nat),.int .u64 (den:Nat),.int .u64 (burst:Nat)]);exact rfl;exact rfl;exact Rds.all .here;exact trivial) | refine we_seq ?_ | (refine wR ?_;try simp only [oS]) | refine wo_nil ?_ | refine wA ?_)
 refine wo_call (.cons rfl .nil) trivial (check_ok O) ?_
 rintro v1 L1 x1 ⟨rfl,rfl,rfl⟩
 repeat (first | (apply wo_po;apply mo_loadA (vs:=[.int .u64 (num:Nat),.int .u64 (den:Nat),.int .u64 (burst:Nat)]);exact rfl;exact rfl;exact Rds.all .here;exact trivial) | (apply wo_po;apply mo_build (pv:=[(0,_)]);exact rfl;exact .cons rfl .nil;exact rfl;exact trivial) | (apply wo_mo;apply mo_box;exact rfl;exact trivial) | refine wneqF ?_ | refine we_seq ?_ | (refine wR ?_;try simp only [oS]) | refine wo_nil ?_ | refine wM ?_ | refine wA ?_ | refine wF ?_ | refine we_skip ?_)
 rintro v' L' ⟨r,rfl,rfl⟩
 repeat (first | refine wo_nil ?_ | refine wA ?_ | refine we_ret ?_)
 (first | refine or2 Try.func15 Try.results15 hQ rfl rfl ?_ | refine on2 Try.func15 Try.results15 hQ rfl rfl ?_)
 exact ⟨r,rfl,rfl,fun h st=>Ent.star (.take .here (.drop .refl)) st⟩
theorem mnew_no {x:B.X} (h1:num<18446744073709551616) (h2:den<18446744073709551616) (h3:burst<18446744073709551616) (O:¬ BOk num den burst):Tr Try.prog B 15 [.agg #[.int .u64 (num:Nat),.int .u64 (den:Nat),.int .u64 (burst:Nat)]] L x fun v L' x'=>v=.tuple #[.pointer none,.int .i64 2]∧L'=L∧x'=x:=by
 refine Tr.post (R:=fun v L' x'=>v=.tuple #[.pointer none,.int .i64 2]∧x'=x∧∀ h,Star L' h→Star L h) ?_ (by rintro v L' x' ⟨h0,rfl,hs⟩;exact ⟨L,⟨h0,rfl,rfl⟩,hs⟩)
 refine tr_of_body Try.func15 rfl Try.ntmps15 (by simp) fun um Q _ hQ=>?_
 simp only [argE,Nat.zero_add,Nat.reduceAdd]
 repeat (first | (apply wo_mo;apply mo_box;exact rfl;exact trivial) | refine we_seq ?_ | (refine wR ?_;try simp only [oS]))
 rintro v' L' ⟨bb,rfl,rfl⟩
 refine wo_ent (arr bb 0 [.int .u64 (num:Nat),.int .u64 (den:Nat),.int .u64 (burst:Nat)]::L) .refl ?_
 repeat (first | (apply wo_po;apply mo_loadA (vs:=[.int .u64 (num:Nat),.int .u64 (den:Nat),.int .u64 (burst:Nat)]);exact rfl;exact rfl;exact Rds.all .here;exact trivial) | refine we_seq ?_ | (refine wR ?_;try simp only [oS]) | refine wo_nil ?_ | refine wA ?_)
 refine wo_call (.cons rfl .nil) trivial (check_no h1 h2 h3 O) ?_
 rintro v1 L1 x1 ⟨rfl,rfl,rfl⟩
 repeat (first | refine wneqT ?_ | refine we_seq ?_ | (refine wR ?_;try simp only [oS]) | refine wo_nil ?_ | refine wM ?_ | refine wA ?_ | refine wT ?_ | refine we_ret ?_)
 (first | refine or2 Try.func15 Try.results15 hQ rfl rfl ?_ | refine on2 Try.func15 Try.results15 hQ rfl rfl ?_)
 exact ⟨rfl,rfl,fun h st=>star_drop st⟩
variable {v0:Option Addr} {x:B.X}
end
end
section
def mAddr (r:Nat) (_:Nat):Nat × Nat:=(r,3)
def mK (r num den burst:Nat):List (Nat × Nat × Value):=[(r,0,.int .u64 (num:Nat)),(r,1,.int .u64 (den:Nat)),(r,2,.int .u64 (burst:Nat))]
theorem m_apart (r num den burst:Nat):Apart (mAddr r) 1 (mK r num den burst) where
 inj:=fun i j hi hj _=>by omega
 fix:=fun i _ k hk=>by simp only [mK,List.mem_cons,List.not_mem_nil,or_false] at hk;rcases hk with rfl | rfl | rfl <;> simp [mAddr]
section
variable {B:Hand} [Lets B] {x:B.X} {r num den burst now n:Nat} {L F:List HProp} {h:Hp} {s:Nat→Nat}
def mC (r num den burst:Nat) (s:Nat→Nat):HProp:=wds (mAddr r) 1 (mK r num den burst) s
omit [Lets B] in
theorem m_wds (st:Star (arr r 0 [.int .u64 (num:Nat),.int .u64 (den:Nat),.int .u64 (burst:Nat),.int .u64 0]::L) h):Star (mC r num den burst (fun _=>0)::L) h:=by
 refine star_map st (fun h a=>⟨fun w hw=>⟨by show 0<18446744073709551616;decide,a 3 _ rfl⟩,fun k hk=>?_⟩) (fun _ y=>y)
 simp only [mK,List.mem_cons,List.not_mem_nil,or_false] at hk
 rcases hk with rfl | rfl | rfl
 ·exact a 0 _ rfl
 ·exact a 1 _ rfl
 ·exact a 2 _ rfl
omit [Lets B] in
theorem mC_rd:Rds [mC r num den burst s] r 0 [.int .u64 (num:Nat),.int .u64 (den:Nat),.int .u64 (burst:Nat)]:=fun i v hv h hs=>by
 obtain ⟨h1,h2,s1,hc,_⟩:=hs
 match i,hv with
 | 0,hv=>cases hv;exact ⟨rfl,.inl (s1.o1 _ _ _ (hc.2 (r,0,.int .u64 (num:Nat)) (by simp [mK])))⟩
 | 1,hv=>cases hv;exact ⟨rfl,.inl (s1.o1 _ _ _ (hc.2 (r,1,.int .u64 (den:Nat)) (by simp [mK])))⟩
 | 2,hv=>cases hv;exact ⟨rfl,.inl (s1.o1 _ _ _ (hc.2 (r,2,.int .u64 (burst:Nat)) (by simp [mK])))⟩
def mLone (x:B.X) (r num den burst:Nat):Acc B .nilIface:=loneAcc x (mAddr r) 1 (mK r num den burst) (m_apart r num den burst)
theorem m_at (O:BOk num den burst):MeterAt (mLone x r num den burst) r num den burst:=⟨O,fun s=>mC_rd,rfl⟩
theorem mtake_lone (O:BOk num den burst) (ht:now≤1099511627776) (hn:n<18446744073709551616) {u:Nat} {k:Option Nat} (hs:s 0=u) (hk:takeN num den burst u now n=k) (hh:Has L (mC r num den burst s) F) :
  Tr Try.prog B 16 [.pointer (some ⟨r,0,none⟩),.nilIface,.int .u64 (now:Nat),.int .u64 (n:Nat)] L x fun v L' x'=>∃ s',v=.tuple #[.bool k.isSome,.int .i64 0]∧s' 0=k.getD u∧L'=mC r num den burst s'::F∧x'=x:=by
 refine (mtake_tr (A:=mLone x r num den burst) (m_at O) ht hn (s:=s) (G:=fun q s'=>q=k.isSome∧s' 0=k.getD u) ?_ hh).mono ?_
 ·intro X hX
  refine hX _ ⟨by show 0<1;omega,?_⟩
  show match takeN num den burst (s 0) now n with | none=>_ | some t=>_
  rw [hs,hk]
  cases k with
  | none=>exact ⟨rfl,hs⟩
  | some t =>
   refine ⟨by show 0<1;omega,?_⟩
   rw [if_pos hs]
   simp only [if_true]
   exact ⟨rfl,upd_same⟩
 ·rintro v L' x' ⟨q,s',⟨rfl,h1⟩,rfl,rfl,rfl⟩
  exact ⟨s',rfl,h1,rfl,rfl⟩
end
end
end Go.Proofs.Ytaeegnfbofagcaa
namespace Go.Proofs.Ytaeegnfbofagcaa
open Go Go.PB
section
abbrev TmS:=Nat × List (Nat × Nat)
abbrev TmQ:=List (Nat × Nat) × Option Nat
def tmPlan (num den burst:Nat) (q:TmQ):Option ((Int × Int) × (TmS→TmS × TmQ)) :=
 match q.1 with
 | []=>none
 | y::rest=>match q.2 with
  | none=>some ((((1:Nat):Int),((0:Nat):Int)),fun s=>match takeN num den burst s.1 y.1 y.2 with
   | none=>(s,(rest,none))
   | some _=>(s,(y::rest,some s.1)))
  | some o=>some ((((5:Nat):Int),((0:Nat):Int)),fun s=>if s.1=o then (((takeN num den burst o y.1 y.2).getD 0,s.2++[y]),(rest,none)) else (s,(y::rest,none)))
def gsum (f t:Nat) (l:List (Nat × Nat)):Nat:=sumN (l.map fun y=>if f≤y.1∧y.1≤t then y.2 else 0)
theorem sumN_app {a b:List Nat}:sumN (a++b)=sumN a+sumN b:=by
 induction a with
 | nil=>simp [sumN]
 | cons x a ih=>simp only [sumN,List.cons_append,List.foldr_cons] at ih ⊢;omega
theorem gsum_app {f t:Nat} {a b:List (Nat × Nat)}:gsum f t (a++b)=gsum f t a+gsum f t b:=by
 unfold gsum;rw [List.map_append,sumN_app]
theorem gsum_one {f t:Nat} {y:Nat × Nat}:gsum f t [y]=if f≤y.1∧y.1≤t then y.2 else 0:=by simp [gsum,sumN]
def tmP (y:Nat × Nat):Prop:=y.1≤1099511627776∧y.2<18446744073709551616
structure TmI (num den burst:Nat) (s:TmS) (qs:List TmQ):Prop where
 len:qs.length≤6
 cnt:s.2.length+sumN (qs.map fun q=>q.1.length)≤72
 sw:∀ (k:Nat) q,qs[k]?=some q→∀ y rest o,q.1=y::rest→q.2=some o→(takeN num den burst o y.1 y.2).isSome=true
 bl:∀ y∈s.2,tmP y
 bq:∀ (k:Nat) q,qs[k]?=some q→∀ y∈q.1,tmP y
 W:∀ f t,gsum f t s.2=0∨f*num+gsum f t s.2*den≤s.1∧f*num+gsum f t s.2*den≤t*num+burst*den
theorem take_some {num den burst s now n t:Nat} (O:BOk num den burst) (hn:now≤1099511627776) (h:takeN num den burst s now n=some t):t=max s (now*num)+n*den∧t≤now*num+burst*den:=by
 obtain ⟨n1,n2,d1,d2,b1,b2⟩:=O
 have e1:now*num≤1099511627776*65536:=Nat.mul_le_mul hn n2
 have e2:burst*den≤1048576*65536:=Nat.mul_le_mul b2 d2
 unfold takeN at h
 generalize now*num=c at h e1 ⊢
 generalize burst*den=bd at h e2 ⊢
 generalize n*den=nd at h ⊢
 split at h
 ·cases h
 ·cases h
  rw [Nat.mod_eq_of_lt (by omega)]
  omega
def tmφ (o:Nat) (q:TmQ):Nat:=match q.2 with | none=>14*q.1.length | some o'=>14*q.1.length-1+(if o'=o then 0 else 2)
theorem tmφ_le (o o1:Nat) (q:TmQ):tmφ o1 q≤tmφ o q+2:=by
 unfold tmφ
 split
 ·omega
 ·split <;> split <;> omega
theorem tm_qs {P:TmQ→Prop} {qs:List TmQ} {k:Nat} {q':TmQ} (h:∀ (k:Nat) q,qs[k]?=some q→P q) (h':P q'):∀ (j:Nat) q,(qs.set k q')[j]?=some q→P q:=fun j q hj=>by
 rw [List.getElem?_set] at hj
 split at hj
 ·split at hj
  ·cases hj;exact h'
  ·cases hj
 ·exact h j q hj
set_option maxHeartbeats 1000000 in
theorem tm_step {num den burst:Nat} (O:BOk num den burst) {s:TmS} {qs:List TmQ} (I:TmI num den burst s qs) {k:Nat} {q:TmQ} (hq:qs[k]?=some q) {m:Int × Int} {f:TmS→TmS × TmQ} (hp:tmPlan num den burst q=some (m,f)) :
  TmI num den burst (f s).1 (qs.set k (f s).2)∧sumN ((qs.set k (f s).2).map (tmφ (f s).1.1))+1≤sumN (qs.map (tmφ s.1)):=by
 obtain ⟨il,ic,isw,ibl,ibq,iw⟩:=I
 obtain ⟨o,l⟩:=s
 obtain ⟨rl,st⟩:=q
 have hc:∀ q':TmQ,sumN ((qs.set k q').map fun q=>q.1.length)+rl.length=sumN (qs.map fun q=>q.1.length)+q'.1.length:=fun q'=>sum_set (φ:=fun q:TmQ=>q.1.length) (q':=q') hq
 cases rl with
 | nil=>cases hp
 | cons y rest =>
  have hy:=ibq k _ hq
  have hy0:tmP y:=hy y (by simp)
  have hyr:∀ z∈rest,tmP z:=fun z hz=>hy z (by simp [hz])
  unfold tmPlan at hp
  cases st with
  | none =>
   simp only [Option.some.injEq,Prod.mk.injEq] at hp
   obtain ⟨_,rfl⟩:=hp
   cases hG:takeN num den burst o y.1 y.2 with
   | none =>
    simp only [hG]
    have h1:=hc (rest,none)
    refine ⟨⟨by simpa using il,?_,tm_qs (P:=fun q=>∀ y rest o,q.1=y::rest→q.2=some o→(takeN num den burst o y.1 y.2).isSome=true) isw (fun y' r' o' _ h=>(by cases h)),ibl,tm_qs (P:=fun q=>∀ y∈q.1,tmP y) ibq hyr,iw⟩,sum_step (fun _=>Nat.le_refl _) hq ?_⟩
    ·simp only [List.length_cons] at ic h1 ⊢;omega
    ·simp only [tmφ,List.length_cons];omega
   | some z =>
    simp only [hG]
    have h1:=hc (y::rest,some o)
    refine ⟨⟨by simpa using il,?_,tm_qs (P:=fun q=>∀ y rest o,q.1=y::rest→q.2=some o→(takeN num den burst o y.1 y.2).isSome=true) isw (fun y' r' o' h h'=>(by cases h;cases h';rw [hG];rfl)),ibl,tm_qs (P:=fun q=>∀ y∈q.1,tmP y) ibq hy,iw⟩,sum_step (fun _=>Nat.le_refl _) hq ?_⟩
    ·simp only [List.length_cons] at ic h1 ⊢;omega
    ·simp only [tmφ,List.length_cons,if_true];omega
  | some o' =>
   simp only [Option.some.injEq,Prod.mk.injEq] at hp
   obtain ⟨_,rfl⟩:=hp
   have hsome:=isw k _ hq y rest o' rfl rfl
   by_cases c:o=o'
   ·subst c
    simp only [if_true]
    obtain ⟨z,hz⟩:=Option.isSome_iff_exists.1 hsome
    obtain ⟨z1,z2⟩:=take_some O hy0.1 hz
    rw [hz]
    simp only [Option.getD_some]
    have h1:=hc (rest,none)
    refine ⟨⟨by simpa using il,?_,tm_qs (P:=fun q=>∀ y rest o,q.1=y::rest→q.2=some o→(takeN num den burst o y.1 y.2).isSome=true) isw (fun y' r' o' _ h=>(by cases h)),fun x hx=>?_,tm_qs (P:=fun q=>∀ y∈q.1,tmP y) ibq hyr,fun f t=>?_⟩,sum_step2 (d:=2) (tmφ_le _ _) hq ?_⟩
    ·simp only [List.length_append,List.length_cons,List.length_nil] at ic h1 ⊢;omega
    ·rcases List.mem_append.1 hx with hx | hx
     ·exact ibl x hx
     ·cases List.mem_singleton.1 hx;exact hy0
    ·have hI:=iw f t
     simp only at hI ⊢
     rw [gsum_app,gsum_one]
     by_cases cc:f≤y.1∧y.1≤t
     ·rw [if_pos cc,Nat.add_mul]
      have e2:f*num≤y.1*num:=Nat.mul_le_mul_right _ cc.1
      have e3:y.1*num≤t*num:=Nat.mul_le_mul_right _ cc.2
      right
      generalize gsum f t l=w at hI ⊢
      rcases hI with rfl | ⟨h3,h4⟩
      ·rw [Nat.zero_mul];omega
      ·omega
     ·rw [if_neg cc,Nat.add_zero]
      rcases hI with h3 | ⟨h3,h4⟩
      ·exact .inl h3
      ·exact .inr ⟨by omega,h4⟩
    ·simp only [tmφ,List.length_cons];omega
   ·simp only [if_neg c]
    have h1:=hc (y::rest,none)
    refine ⟨⟨by simpa using il,?_,tm_qs (P:=fun q=>∀ y rest o,q.1=y::rest→q.2=some o→(takeN num den burst o y.1 y.2).isSome=true) isw (fun y' r' o' _ h=>(by cases h)),ibl,tm_qs (P:=fun q=>∀ y∈q.1,tmP y) ibq hy,iw⟩,sum_step (fun _=>Nat.le_refl _) hq ?_⟩
    ·simp only [List.length_cons] at ic h1 ⊢;omega
    ·simp only [tmφ,List.length_cons,if_neg (Ne.symm c)];omega
theorem fits_of {num den burst f t w:Nat} (O:BOk num den burst) (hft:f≤t) (h:w=0∨f*num+w*den≤t*num+burst*den):w≤burst+(t-f)*num/den:=by
 rcases h with rfl | h
 ·exact Nat.zero_le _
 ·have e:(t-f)*num=t*num-f*num:=Nat.sub_mul _ _ _
  have e1:f*num≤t*num:=Nat.mul_le_mul_right _ hft
  by_cases hw:w≤burst
  ·exact Nat.le_trans hw (Nat.le_add_right _ _)
  ·have h2:(w-burst)*den≤(t-f)*num:=by rw [Nat.sub_mul,e];omega
   have h3:=(Nat.le_div_iff_mul_le (show 0<den from O.d1)).2 h2
   generalize (t-f)*num/den=z at h3 ⊢
   omega
theorem parts {d num den:Nat} (h:0<den):d/den*num+d%den*num/den=d*num/den:=by
 have e:d*num=d%den*num+den*(d/den*num):=by
  have h1:den*(d/den)+d%den=d:=Nat.div_add_mod d den
  calc d*num=(den*(d/den)+d%den)*num:=by rw [h1]
   _=d%den*num+den*(d/den*num):=by rw [Nat.add_mul,Nat.mul_assoc,Nat.add_comm]
 rw [e,Nat.add_mul_div_left _ _ h,Nat.add_comm]
end
end Go.Proofs.Ytaeegnfbofagcaa
namespace Go.PB
open Go
section
def Dup (c:HProp):Prop:=∀ (L:List HProp) (h:Hp),Star (c::L) h→Star (c::c::L) h
theorem dup_fro {b o:Nat} {vs:List Value}:Dup (fro b o vs):=fun L h s=>fro_two s
theorem dup_base {W:World}:Dup (base W):=fun L h s=>by
 obtain ⟨h1,h2,s1,ha,hL⟩:=s
 exact ⟨⟨fun _ _=>none,h1.ro,fun _=>none,fun _=>none⟩,h,⟨fun _ _ _ e=>s1.r1 _ _ _ e,fun _ _ _ e=>e,fun _ _ _ e=>by simp at e,fun _ _ _ e=>e,fun _ _=>.inl rfl,fun _ _ e=>by simp at e,fun _ _ e=>e,fun _=>.inl rfl,fun _ _ e=>by simp at e,fun _ _ e=>e⟩,ha,h1,h2,s1,ha,hL⟩
theorem all_cons {c:HProp} {M L:List HProp} {h:Hp} (s:Star (all (c::M)::L) h):Star (c::all M::L) h :=
 star_map (star_open (M:=c::M) s) (fun _ z=>z) fun _ z=>star_shut z
theorem cons_all {c:HProp} {M L:List HProp} {h:Hp} (s:Star (c::all M::L) h):Star (all (c::M)::L) h :=
 star_shut (M:=c::M) (star_map s (fun _ z=>z) fun _ z=>star_open z)
theorem dup_all:∀ {M:List HProp},(∀ c∈M,Dup c)→Dup (all M)
 | [],_=>fun L h s=>star_shut (M:=[]) s
 | c::M,hM=>fun L h s=>by
  have s1:=hM c (by simp) _ _ (all_cons s)
  have s2:Star (all M::c::c::L) h:=Ent.star (.take (.there (.there .here)) (.take .here (.take .here .refl))) s1
  have s3:=dup_all (fun d hd=>hM d (by simp [hd])) _ _ s2
  have s4:Star (c::all M::c::all M::L) h:=Ent.star (.take (.there (.there .here)) (.take .here (.take (.there .here) (.take .here .refl)))) s3
  exact cons_all (star_map s4 (fun _ z=>z) fun _ z=>star_map z (fun _ z=>z) fun _ z=>cons_all z)
theorem dup_many {c:HProp} (hc:Dup c) {L:List HProp} {h:Hp} (s:Star (c::L) h):∀ n,Star (all (List.replicate n c)::c::L) h
 | 0=>star_shut (M:=[]) s
 | n+1=>by
  have s1:=dup_many hc s n
  have s2:=hc _ _ (star_swap s1)
  have s3:Star (c::all (List.replicate n c)::c::L) h:=Ent.star (.take .here (.take (.there .here) (.take .here .refl))) s2
  rw [List.replicate_succ]
  exact cons_all s3
theorem star_zip:∀ {As Bs L:List HProp} {h:Hp},As.length=Bs.length→Star (all As::all Bs::L) h→Star (all (List.zipWith (fun a b=>all [a,b]) As Bs)::L) h
 | [],[],L,h,_,s=>star_shut (M:=[]) (star_drop (star_drop s))
 | [],b::Bs,L,h,e,s=>by simp at e
 | a::As,[],L,h,e,s=>by simp at e
 | a::As,b::Bs,L,h,e,s=>by
  have s1:=all_cons s
  have s2:Star (all (b::Bs)::a::all As::L) h:=Ent.star (.take (.there (.there .here)) (.take .here (.take .here .refl))) s1
  have s3:=all_cons s2
  have s4:Star (all As::all Bs::a::b::L) h:=Ent.star (.take (.there (.there (.there .here))) (.take (.there .here) (.take (.there .here) (.take .here .refl)))) s3
  have s5:=star_zip (by simpa using e) s4
  have s6:Star (a::b::all (List.zipWith (fun a b=>all [a,b]) As Bs)::L) h:=Ent.star (.take (.there .here) (.take (.there .here) (.take .here .refl))) s5
  exact cons_all (star_shut (M:=[_,_]) s6)
theorem star_tail:∀ {M L:List HProp} {h:Hp},Star (M++L) h→Star (all L::M) h
 | [],L,h,s=>star_shut (L:=[]) (by rw [List.append_nil];exact s)
 | c::M,L,h,s=>star_swap (star_map (L:=M++L) s (fun _ z=>z) fun _ z=>star_tail z)
end
end Go.PB
namespace Go.Proofs.Ytaeegnfbofagcaa
open Go Go.PB
attribute [local irreducible] Mo Bin Eql Tr Wo Ap Wle
section
theorem rd_all {M L:List HProp} {b o:Nat} {v:Value} (r:Rd M b o v):Rd (all M::L) b o v:=fun h s =>
 r h (star_drop (star_tail (star_open s)))
def tmE (y:Nat × Nat):List Value:=[.int .u64 (y.1:Nat),.int .u64 (y.2:Nat)]
def tmZ (wb gv:Nat) (l:List (Nat × Nat)):HProp:=fun h=>∃ sv:Value,all [arr wb 0 [.bool false],arr gv 0 [sv],vec 2 sv (l.map tmE).flatten] h
def tmW (wb gv num den burst:Nat):WGm where
 σ:=TmS
 θ:=TmQ
 ζ:=List (Nat × Nat)
 wf:=fun s _=>s.1
 zf:=fun s=>s.2
 Z:=tmZ wb gv
 plan:=tmPlan num den burst
 ok:=fun s=>s.2.length≤100
 Pv:=fun _ _=>True
 up:=fun _ _ _=>trivial
section
variable {wb gv num den burst r sb says turn fin wg:Nat} {Pm:HProp}
abbrev tmAcc (wb gv num den burst r sb says turn fin wg:Nat) (Pm:HProp):Acc tH (gateV sb):=gamAcc (tmW wb gv num den burst) (mAddr r) 1 (mK r num den burst) (m_apart r num den burst) sb says turn fin wg Pm
theorem tm_at (O:BOk num den burst):MeterAt (tmAcc wb gv num den burst r sb says turn fin wg Pm) r num den burst:=⟨O,fun s i v hv=>rd_all (Rd.of .here (mC_rd i v hv)),rfl⟩
structure TmSt (rl:List (Nat × Nat)) (s:GaS (tmW wb gv num den burst)):Prop where
 q:s.q=((rl,none):TmQ)
 f:s.f 0=(show TmS from s.s).1
 c:s.c=(show TmS from s.s).2
theorem tm_take {y:Nat × Nat} {rest:List (Nat × Nat)}:∀ (N:Nat) (s:GaS (tmW wb gv num den burst)),s.n<N→TmSt (y::rest) s→MTakeT (tmAcc wb gv num den burst r sb says turn fin wg Pm) num den burst y.1 y.2 s fun is s'=>s'.q=((rest,none):TmQ)∧s'.f 0=(show TmS from s'.s).1∧(show TmS from s'.s).2=(if is=true then (show List (Nat × Nat) from s'.c)++[y] else s'.c)∧(show List (Nat × Nat) from s'.c).length≤100:=by
 intro N s hN hs X hX
 revert s
 induction N with
 | zero=>intro s hN;omega
 | succ N ih =>
  intro s hN hs
  refine hX _ ?_
  unfold MTakeF
  refine ga_go (op:=1) (F:=fun s=>match takeN num den burst s.1 y.1 y.2 with
   | none=>(s,(rest,none))
   | some _=>(s,(y::rest,some s.1))) rfl (by rw [hs.q];rfl) (fun j hj=>(show j=0 by omega)▸hs.f) hs.c (fun _ _=>trivial) fun s' n hn hok=>⟨by omega,?_⟩
  obtain ⟨o,l⟩:=s'
  replace hok:l.length≤100:=hok
  show match takeN num den burst o y.1 y.2 with | none=>_ | some t=>_
  cases hG:takeN num den burst o y.1 y.2 with
  | none =>
   simp only [hG]
   exact ⟨rfl,rfl,rfl,hok⟩
  | some z =>
   simp only [hG]
   refine ga_go (op:=5) (F:=fun s=>if s.1=o then (((takeN num den burst o y.1 y.2).getD 0,s.2++[y]),(rest,none)) else (s,(y::rest,none))) rfl rfl (fun j hj=>rfl) rfl (fun _ _=>trivial) fun s2 n2 hn2 hok2=>⟨by omega,?_⟩
   obtain ⟨o2,l2⟩:=s2
   replace hok2:l2.length≤100:=hok2
   show if o2=o then _ else _
   by_cases c3:o2=o
   ·subst c3
    rw [if_pos rfl,if_pos rfl]
    simp only [if_true]
    refine ⟨rfl,?_,rfl,hok2⟩
    show upd _ 0 _ 0=(takeN num den burst o2 y.1 y.2).getD 0
    rw [upd_same,hG];rfl
   ·rw [if_neg c3]
    simp only [if_neg c3]
    rw [if_neg (by decide)]
    exact ih _ (by show n2<N;dsimp only at hn hn2;omega) ⟨rfl,rfl,rfl⟩
end
structure TmRo (Ro:HProp) (t19 mb r:Nat) (a:Option Addr) (c:Nat) (l:List (Nat × Nat)):Prop where
 h1:Rd [Ro] t19 0 (.slice a l.length c)
 h3:∀ (i:Nat) y,l[i]?=some y→∃ b o,a=some ⟨b,o,none⟩∧Rds [Ro] b (o+2*i) [.int .u64 (y.1:Nat),.int .u64 (y.2:Nat)]
 h5:Rd [Ro] mb 0 (.pointer (some ⟨r,0,none⟩))
 hl:l.length≤12
 ok:∀ y∈l,y.1<18446744073709551616∧y.2<18446744073709551616
def tmL (l:List (Nat × Nat)):List (Nat × Nat):=l.map fun y=>(y.1%1099511627777,y.2)
abbrev tmF (t19 mb wb gv:Nat):Value:=.func (.func 17) #[] #[.pointer (some ⟨t19,0,none⟩),.pointer (some ⟨mb,0,none⟩),.pointer (some ⟨wb,0,none⟩),.pointer (some ⟨gv,0,none⟩)]
section
variable {wb gv num den burst r:Nat}
def tmInv (wb gv num den burst r sb says turn fin wg t19 mb:Nat) (a:Option Addr) (c:Nat) (l:List (Nat × Nat)) (Ro:HProp) (F:List HProp):PB.Inv (Nat × GaS (tmW wb gv num den burst)) TX where
 e:=fun i=>[(0,gateV sb),(1,.pointer (some ⟨t19,0,none⟩)),(2,.pointer (some ⟨mb,0,none⟩)),(3,.pointer (some ⟨wb,0,none⟩)),(4,.pointer (some ⟨gv,0,none⟩)),(10,.slice a l.length c),(11,.int .i64 (l.length:Nat)),(12,.int .i64 (i.1:Nat))]
 L:=fun i=>gaC (tmW wb gv num den burst) (mAddr r) 1 (mK r num den burst) sb says turn fin (all []) i.2.f i.2.c::Ro::F
 x:=fun i=>tx ((tmW wb gv num den burst).g (mAddr r) 1 (mK r num den burst)) says turn fin wg (.busy i.2.s i.2.q i.2.n)
 ok:=fun i=>i.1≤l.length∧TmSt ((tmL l).drop i.1) i.2
set_option maxHeartbeats 4000000 in
theorem tm_ok {t19 mb c:Nat} {a:Option Addr} {l:List (Nat × Nat)} {Ro:HProp} (B:BOk num den burst) (O:TmRo Ro t19 mb r a c l) :
  ThrOk ((tmW wb gv num den burst).g (mAddr r) 1 (mK r num den burst)) (fun s=>(s,((tmL l,none):TmQ))) (tmF t19 mb wb gv) Ro where
 run:=by
  refine ⟨_,_,_,rfl,inferInstance,fun sb says turn fin wg (s:TmS) m F hok=>?_⟩
  show Tr Try.prog tH _ [gateV sb,.pointer (some ⟨t19,0,none⟩),.pointer (some ⟨mb,0,none⟩),.pointer (some ⟨wb,0,none⟩),.pointer (some ⟨gv,0,none⟩)] _ (tx ((tmW wb gv num den burst).g (mAddr r) 1 (mK r num den burst)) says turn fin wg (.busy s ((tmL l,none):TmQ) m)) _
  refine tr_star (gaC (tmW wb gv num den burst) (mAddr r) 1 (mK r num den burst) sb says turn fin (all []) (fun _=>s.1) s.2::Ro::F) (fun hp st=>?_) ?_
  ·have s1:Star (wds (mAddr r) 1 (mK r num den burst) (fun _=>s.1)::tmZ wb gv s.2::seatR sb says turn fin::Ro::F) hp:=star_open (M:=[_,_]) st
   have s2:Star (all []::wds (mAddr r) 1 (mK r num den burst) (fun _=>s.1)::tmZ wb gv s.2::seatR sb says turn fin::Ro::F) hp:=star_shut (M:=[]) s1
   exact star_shut (M:=[_,_,_,_]) (Ent.star (.take (.there .here) (.take (.there .here) (.take (.there .here) (.take .here .refl)))) s2)
  refine tr_of_body Try.func17 rfl Try.ntmps17 (by simp) fun um Q _ hQ=>?_
  simp only [argE,Nat.zero_add,Nat.reduceAdd]
  repeat (first | (apply wo_po;apply mo_load;exact rfl;exact .there (Rd.of .here O.h1);exact trivial) | refine we_seq ?_ | (refine wR ?_;try simp only [oS]) | refine wo_nil ?_ | refine wM ?_ | refine wE ?_ | refine we_block ?_)
  refine we_loopN (tmInv wb gv num den burst r sb says turn fin wg t19 mb a c l Ro F) (fun i=>l.length-i.1) (0,⟨fun _=>s.1,s.2,s,((tmL l,none):TmQ),m⟩) ⟨Nat.zero_le _,rfl,rfl,rfl⟩ ⟨rfl,rfl,rfl,rfl,rfl,rfl,rfl,rfl,trivial⟩ .refl rfl ?_
  rintro ⟨i,s⟩ ⟨hi,hs⟩
  dsimp only at hi hs
  simp only [tmInv]
  have hl12:=O.hl
  by_cases hlt:i<l.length
  ·obtain ⟨y,hy⟩:∃ y,l[i]?=some y:=⟨l[i],List.getElem?_eq_getElem hlt⟩
   obtain ⟨b3,o3,rfl,r3⟩:=O.h3 i y hy
   obtain ⟨hy1,hy2⟩:=O.ok y (List.mem_of_getElem? hy)
   obtain ⟨now0,n⟩:=y
   simp only at hy1 hy2 r3
   have q3:∀ {c:HProp},Rds (c::Ro::F) b3 (o3+2*i) [.int .u64 (now0:Nat),.int .u64 (n:Nat)]:=fun {c} j v hj=>.there (Rd.of .here (r3 j v hj))
   have q5:∀ {c d:HProp},Rd (c::d::Ro::F) mb 0 (.pointer (some ⟨r,0,none⟩)):=fun {c d}=>.there (.there (Rd.of .here O.h5))
   obtain ⟨now,hnow⟩:∃ now,now0%1099511627777=now:=⟨_,rfl⟩
   have hrem:(now0:Int).tmod 1099511627777=((now:Nat):Int):=by rw [Int.tmod_eq_emod_of_nonneg (by omega)];omega
   have hml:(tmL l).drop i=(now,n)::(tmL l).drop (i+1):=by
    rw [List.drop_eq_getElem_cons (by simp [tmL];omega)]
    congr 1
    have:(tmL l)[i]?=some (now,n):=by simp only [tmL,List.getElem?_map,hy,Option.map_some,hnow]
    exact (List.getElem?_eq_some_iff.1 this).2
   rw [hml] at hs
   repeat (first | (apply wo_po;apply mo_indexAddr (r:=o3+2*i);exact rfl;exact rfl;omega;omega;omega;exact trivial) | (apply wo_po;apply mo_loadA (vs:=[.int .u64 (now0:Nat),.int .u64 (n:Nat)]);exact rfl;exact rfl;exact q3;exact trivial) | (apply wo_mo;apply mo_alloc;exact trivial) | refine wlssT ?_ | refine we_seq ?_ | (refine wR ?_;try simp only [oS]) | refine wo_nil ?_ | refine wT ?_ | refine we_skip ?_ | refine we_block ?_)
   rintro v' L' ⟨xb,rfl,rfl⟩
   repeat (first | (apply wo_pm;apply mo_storeA (c:=0) (k:=0) (a:=0) (vs:=[.int .u64 0,.int .u64 0]);exact rfl;exact rfl;exact rfl;(intro w hw;simp [Value.cells] at hw;rcases hw with rfl | rfl <;> rfl);exact rfl;exact Nat.le_refl 2;exact .here;exact trivial) | (apply wo_po;apply mo_bin;exact rfl;exact rfl;apply bin_rem;omega;exact hrem;exact trivial) | (apply wo_po;apply mo_load;exact rfl;exact q5;exact trivial) | refine wS ?_ | refine we_seq ?_ | (refine wR ?_;try simp only [oS]) | refine wo_nil ?_ | refine wM ?_ | refine wD ?_ | refine wL ?_)
   refine wo_ent (arr xb 0 [.int .u64 (now:Nat),.int .u64 (n:Nat)]::gaC (tmW wb gv num den burst) (mAddr r) 1 (mK r num den burst) sb says turn fin (all []) s.f s.c::Ro::F) .refl ?_
   skip
   refine wo_call (.cons rfl (.cons rfl (.cons rfl (.cons rfl .nil)))) trivial (mtake_tr (A:=tmAcc wb gv num den burst r sb says turn fin wg (all [])) (tm_at B) (by omega) hy2 (tm_take (y:=(now,n)) _ s (Nat.lt_succ_self _) hs) (.there .here)) ?_
   rintro v L' x' ⟨is,s',⟨hq',hf',hs',hc'⟩,rfl,rfl,rfl⟩
   obtain ⟨c0,hc0⟩:∃ c0:List (Nat × Nat),c0=(show List (Nat × Nat) from s'.c):=⟨_,rfl⟩
   have hs2:(show TmS from s'.s).2=if is=true then c0++[(now,n)] else c0:=by rw [hc0];exact hs'
   rw [← hc0] at hc'
   cases is
   ·simp only [Bool.false_eq_true,if_false] at hs2
    repeat (first | refine wneqF ?_ | refine we_seq ?_ | (refine wR ?_;try simp only [oS]) | refine wo_nil ?_ | refine wM ?_ | refine wA ?_ | (apply wo_po;apply mo_extract;exact rfl;exact rfl;exact gY) | refine wadd ?_ | refine wF ?_ | refine we_skip ?_)
    refine at_roundS (B:=tH) (I:=tmInv wb gv num den burst r sb says turn fin wg t19 mb (some ⟨b3,o3,none⟩) c l Ro F) (R:=fun j=>l.length-j.1<l.length-i) (i+1,s') (by show l.length-(i+1)<l.length-i;omega) ⟨by show i+1≤l.length;omega,hq',hf',by rw [hs2,hc0]⟩ ⟨rfl,rfl,rfl,rfl,rfl,rfl,rfl,rfl,trivial⟩ (fun hp st=>Ent.star (.take .here (.drop .refl)) st) rfl
   ·simp only [if_true] at hs2
    refine wo_star ((fun h=>∃ sv:Value,all [arr wb 0 [.bool false],arr gv 0 [sv],vec 2 sv (c0.map tmE).flatten] h)::wds (mAddr r) 1 (mK r num den burst) s'.f::seatR sb says turn fin::all []::arr xb 0 [.int .u64 (now:Nat),.int .u64 (n:Nat)]::Ro::F) (fun hp st=>?_) ?_
    ·have s1:Star (wds (mAddr r) 1 (mK r num den burst) s'.f::tmZ wb gv s'.c::seatR sb says turn fin::all []::arr xb 0 [.int .u64 (now:Nat),.int .u64 (n:Nat)]::Ro::F) hp:=star_open (M:=[_,_,_,_]) st
     rw [hc0]
     exact Ent.star (.take (.there .here) (.take .here .refl)) s1
    refine wo_ex .here fun sv=>?_
    refine wo_star (arr gv 0 [sv]::vec 2 sv (c0.map tmE).flatten::arr wb 0 [.bool false]::wds (mAddr r) 1 (mK r num den burst) s'.f::seatR sb says turn fin::all []::arr xb 0 [.int .u64 (now:Nat),.int .u64 (n:Nat)]::Ro::F) (fun hp st=>Ent.star (.take (.there .here) (.take (.there .here) (.take .here .refl))) (star_open (M:=[_,_,_]) st)) ?_
    refine wo_pure (of_has (.there .here) (vec_shape (by omega))) ?_
    rintro ⟨va,vn,vc,rfl,hvn,_⟩
    have hvn':vn=c0.length:=by rw [flat_len (k:=2) (fun _=>rfl)] at hvn;omega
    repeat (first | (apply wo_po;apply mo_loadA (vs:=[.int .u64 (now:Nat),.int .u64 (n:Nat)]);exact rfl;exact rfl;exact Rds.all (.there (.there (.there (.there (.there (.there .here))))));exact trivial) | (apply wo_mo;apply mo_buildSlice (sz:=2) (vs:=[.agg #[.int .u64 (now:Nat),.int .u64 (n:Nat)]]);exact rfl;exact .cons rfl .nil;exact rfl;(intro v hv;cases (List.mem_singleton.1 hv);exact rfl);omega;exact trivial) | refine wneqF ?_ | refine we_seq ?_ | (refine wR ?_;try simp only [oS]) | refine wo_nil ?_ | refine wM ?_ | refine wA ?_ | (apply wo_po;apply mo_extract;exact rfl;exact rfl;exact gY) | refine wL ?_ | refine wT ?_ | refine wF ?_ | refine we_skip ?_)
    rintro v' L' ⟨sb2,rfl,rfl⟩
    repeat (first | (apply wo_mo;apply mo_append (sz:=2) (new:=[.int .u64 (now:Nat),.int .u64 (n:Nat)]);exact rfl;exact rfl;exact rfl;exact rfl;exact (.there (.there .here));exact rfl;exact .inr ⟨_,_,rfl,Rds.all .here⟩;(intro v hv;simp at hv;rcases hv with rfl | rfl <;> rfl);(simp only [sliceLen];omega);exact trivial))
    rintro v2 L' rfl
    refine wo_pure (of_has .here (vec_shape (by omega))) ?_
    rintro ⟨wa,wn,wc,rfl,_⟩
    repeat (first | refine wS ?_ | (refine wR ?_;try simp only [oS]) | refine wo_nil ?_ | refine wM ?_ | refine wadd ?_)
    refine at_roundS (B:=tH) (I:=tmInv wb gv num den burst r sb says turn fin wg t19 mb (some ⟨b3,o3,none⟩) c l Ro F) (R:=fun j=>l.length-j.1<l.length-i) (i+1,{ s' with c:=c0++[(now,n)] }) (by show l.length-(i+1)<l.length-i;omega) ⟨by show i+1≤l.length;omega,hq',hf',hs2.symm⟩ ⟨rfl,rfl,rfl,rfl,rfl,rfl,rfl,rfl,trivial⟩ (fun hp st=>?_) rfl
    have s1:Star (arr wb 0 [.bool false]::arr gv 0 [.slice wa wn wc]::vec 2 (.slice wa wn wc) ((c0.map tmE).flatten++[.int .u64 (now:Nat),.int .u64 (n:Nat)])::wds (mAddr r) 1 (mK r num den burst) s'.f::seatR sb says turn fin::all []::Ro::F) hp:=Ent.star (.take (.there (.there (.there .here))) (.take (.there (.there .here)) (.take .here (.take (.there .here) (.take (.there .here) (.take (.there .here) (.drop (.drop .refl)))))))) st
    have s2:=star_shut (M:=[_,_,_]) s1
    have s3:Star (tmZ wb gv (c0++[(now,n)])::wds (mAddr r) 1 (mK r num den burst) s'.f::seatR sb says turn fin::all []::Ro::F) hp:=star_map s2 (fun h z=>⟨.slice wa wn wc,by
     rw [List.map_append,List.flatten_append]
     exact z⟩) fun _ z=>z
    exact star_shut (M:=[_,_,_,_]) (Ent.star (.take (.there .here) (.take .here .refl)) s3)
  ·obtain rfl:i=l.length:=by omega
   repeat (first | refine wlssF ?_ | refine we_seq ?_ | (refine wR ?_;try simp only [oS]) | refine wo_nil ?_ | refine wF ?_ | refine we_exit ?_)
   (first | refine or0 Try.func17 Try.results17 hQ ?_ | refine on0 Try.func17 Try.results17 hQ ?_)
   refine ⟨s.s,s.q,s.n,rfl,?_,fun hp st=>?_⟩
   ·show tmPlan num den burst s.q=none
    rw [hs.q,List.drop_of_length_le (by simp [tmL])];rfl
   ·have s1:Star (wds (mAddr r) 1 (mK r num den burst) s.f::tmZ wb gv s.c::seatR sb says turn fin::all []::Ro::F) hp:=star_open (M:=[_,_,_,_]) st
    have s2:Star (wds (mAddr r) 1 (mK r num den burst) (fun _=>(show TmS from s.s).1)::tmZ wb gv s.c::seatR sb says turn fin::all []::Ro::F) hp:=star_map s1 (wds_congr fun j hj=>(show j=0 by omega)▸hs.f) fun _ z=>z
    rw [hs.c] at s2
    have s3:=star_shut (M:=[_,_]) s2
    exact star_map s3 (fun _ z=>z) fun hq z=>star_map z (fun _ z=>z) fun hq z=>star_shut (M:=[]) (Ent.star (.drop (.drop .refl)) z)
end
end
section
theorem mo_sliceHdB {P:Program} {e:Env} {ty:TypeId} {L:List HProp} {t el sz n c u:Nat} {a:Option Addr} {k:IntKind} {j:Int} {o hi:Operand} [p:SlT P t el] [s:Siz P el sz] (hx:ev e o=some (.slice a n c)) (hh:ev e hi=some (.int k j)) (hj:j=(u:Nat)) (hu:u≤c) :
  Mo P e (.slice t o none (some hi) none) ty L fun v' L'=>v'=.slice a u c∧L'=L:=by
 have h:=mo_slice (P:=P) (e:=e) (ty:=ty) (L:=L) (t:=t) (l:=0) (u:=u) hx .no (.yes hh hj) (Nat.zero_le _) hu
 have e1:(if c=0 then a else a.map (·.add (0*sz)))=a:=by
  split
  ·rfl
  ·cases a with
   | none=>rfl
   | some y=>simp [Addr.add]
 rw [e1] at h
 exact h
section
variable {B:Hand} [Lets B] {x:B.X} {L F:List HProp} {num den burst:Nat}
theorem rdso_vec {L F:List HProp} {a:Option Addr} {n c:Nat} {cs:List Value} (hh:Has L (vec 1 (.slice a n c) cs) F) (hn:cs.length=n*1) (hz:a=none→n=0) (hy:∀ y,a=some y→y=⟨y.block,y.off,none⟩):RdsO L a n cs:=by
 refine ⟨by omega,?_⟩
 cases a with
 | none=>exact .inl (hz rfl)
 | some y =>
  obtain ⟨b,o,sp⟩:=y
  have:=hy _ rfl
  simp only [Addr.mk.injEq,true_and] at this
  subst this
  exact .inr ⟨b,o,rfl,fun i v hi=>rd_vec hh hi⟩
abbrev intR (l:List Int):List Value:=l.map fun k=>.int .i64 k
theorem tord_rd {c:HProp} {a:Option Addr} {l:List Int} {m:Nat} (hr:RdsO L a l.length (intR l)) (hm:(l.take 4096).length=m):m=0∨∃ b o,a=some ⟨b,o,none⟩∧Rds (c::L) b o (intR (l.take 4096)):=by
 rcases hr.2 with h0 | ⟨b,o,e,r⟩
 ·left;rw [List.length_take] at hm;omega
 ·right
  refine ⟨b,o,e,fun i v hi=>.there (r i v ?_)⟩
  rw [List.getElem?_map,List.getElem?_take] at hi
  split at hi
  ·rw [List.getElem?_map];exact hi
  ·cases hi
theorem torder_tr {a:Option Addr} {c:Nat} {l:List Int} (hr:RdsO L a l.length (intR l)) (hc:l.length≤c) (hb:l.length≤9223372036854775807) :
  Tr Try.prog B 14 [.slice a l.length c] L x fun v L' x'=>L'=vec 1 v (intR (l.take 4096))::L∧x'=x:=by
 refine Tr.post (R:=fun v L' x'=>x'=x∧∀ h,Star L' h→Star (vec 1 v (intR (l.take 4096))::L) h) ?_ (by rintro v L' x' ⟨rfl,h2⟩;exact ⟨_,⟨rfl,rfl⟩,h2⟩)
 refine tr_of_body Try.func14 rfl Try.ntmps14 (by simp) fun um Q _ hQ=>?_
 simp only [argE,Nat.zero_add,Nat.reduceAdd]
 obtain ⟨m,hm⟩:∃ m,(l.take 4096).length=m:=⟨_,rfl⟩
 have hm':=hm
 rw [List.length_take] at hm'
 repeat (first | (apply wo_mo;apply mo_buildSlice (sz:=1) (vs:=[]);exact rfl;exact .nil;exact rfl;(intro v hv;cases hv);omega;exact trivial) | refine we_seq ?_ | (refine wR ?_;try simp only [oS]) | refine wo_nil ?_ | refine wA ?_)
 rintro v' L' ⟨nb,rfl,rfl⟩
 refine wo_star (vec 1 (.slice (some ⟨nb,0,none⟩) 0 0) []::L) (fun h st=>vec_new rfl st) ?_
 repeat (first | (apply wo_po;apply mo_min;exact rfl;exact rfl;exact trivial) | (apply wo_po;apply mo_sliceHdB (u:=m);exact rfl;exact rfl;omega;omega;exact trivial) | (apply wo_mo;apply mo_append (sz:=1) (new:=intR (l.take 4096));exact rfl;exact rfl;exact rfl;exact rfl;exact .here;(rw [List.length_map];omega);(exact tord_rd hr hm);(intro v hv;obtain ⟨k,_,rfl⟩:=List.mem_map.1 hv;rfl);(simp only [sliceLen];omega);exact trivial) | refine wM ?_ | refine wE ?_)
 rintro v' L' rfl
 repeat (first | refine wo_nil ?_ | refine wA ?_ | refine we_ret ?_)
 (first | refine or1 Try.func14 Try.results14 hQ rfl ?_ | refine on1 Try.func14 Try.results14 hQ rfl ?_)
 exact ⟨rfl,fun h st=>st⟩
def ltInv (x:B.X) (a:Option Addr) (n c bx num den burst f t most:Nat) (l:List (Nat × Nat)) (L:List HProp):PB.Inv (Nat × List HProp) B.X where
 e:=fun i=>[(2,.int .u64 (f:Nat)),(3,.int .u64 (t:Nat)),(9,.int .u64 (most:Nat)),(10,.int .u64 (gsum f t (l.take i.1):Nat)),(38,.slice a n c),(39,.int .i64 (n:Nat)),(40,.int .i64 (i.1:Nat))]
 L:=fun i=>L
 x:=fun _=>x
 ok:=fun i=>i.1≤n
theorem gsum_le {f t:Nat} {l:List (Nat × Nat)} {j:Nat}:gsum f t (l.take j)≤gsum f t l:=by
 have:gsum f t l=gsum f t (l.take j)+gsum f t (l.drop j):=by rw [← gsum_app,List.take_append_drop]
 omega
set_option maxHeartbeats 4000000 in
theorem lets_tr {a:Option Addr} {n c f t:Nat} {l:List (Nat × Nat)} (hn:l.length=n) (hn72:n≤72) (hrd:n=0∨∃ b o,a=some ⟨b,o,none⟩∧Rds L b o (l.map tmE).flatten) (O:BOk num den burst) (hft:f≤t) (ht:t≤1099511627776) (hfit:gsum f t l≤burst+(t-f)*num/den) :
  Tr Try.prog B 18 [.agg #[.int .u64 (num:Nat),.int .u64 (den:Nat),.int .u64 (burst:Nat)],.slice a n c,.int .u64 (f:Nat),.int .u64 (t:Nat)] L x fun v L' x'=>v=.bool true∧L'=L∧x'=x:=by
 subst hn
 refine Tr.post (R:=fun v L' x'=>v=.bool true∧x'=x∧∀ h,Star L' h→Star L h) ?_ (by rintro v L' x' ⟨rfl,rfl,h2⟩;exact ⟨_,⟨rfl,rfl,rfl⟩,h2⟩)
 have hO:=O
 obtain ⟨n1,n2,d1,d2,b1,b2⟩:=hO
 obtain ⟨d,hd⟩:∃ d,t-f=d:=⟨_,rfl⟩
 have hpt:=parts (d:=d) (num:=num) (den:=den) d1
 have hq1:d/den*num≤1099511627776*65536:=Nat.mul_le_mul (Nat.le_trans (Nat.div_le_self _ _) (by omega)) n2
 have hq2:d%den*num≤1099511627776*65536:=Nat.mul_le_mul (Nat.le_trans (Nat.mod_le _ _) (by omega)) n2
 rw [hd,← hpt] at hfit
 refine tr_of_body Try.func18 rfl Try.ntmps18 (by simp) fun um Q _ hQ=>?_
 simp only [argE,Nat.zero_add,Nat.reduceAdd]
 repeat (first | (apply wo_mo;apply mo_box;exact rfl;exact trivial) | refine we_seq ?_ | (refine wR ?_;try simp only [oS]))
 rintro v' L' ⟨bx,rfl,rfl⟩
 refine wo_ent (arr bx 0 [.int .u64 (num:Nat),.int .u64 (den:Nat),.int .u64 (burst:Nat)]::L) .refl ?_
 obtain ⟨q1,e1⟩:∃ q,d/den=q:=⟨_,rfl⟩
 obtain ⟨q2,e2⟩:∃ q,q1*num=q:=⟨_,rfl⟩
 obtain ⟨q3,e3⟩:∃ q,d%den=q:=⟨_,rfl⟩
 obtain ⟨q4,e4⟩:∃ q,q3*num=q:=⟨_,rfl⟩
 have hq5:q4/den≤q4:=Nat.div_le_self _ _
 obtain ⟨q5,e5⟩:∃ q,q4/den=q:=⟨_,rfl⟩
 rw [e1,e2,e3,e4,e5] at hfit
 rw [e1,e2] at hq1
 rw [e3,e4] at hq2
 rw [e5] at hq5
 have hq1d:q1≤d:=by rw [← e1];exact Nat.div_le_self _ _
 have hq3d:q3≤d:=by rw [← e3];exact Nat.mod_le _ _
 have w1:IntKind.u64.wrap ((t:Int)-(f:Int))=((d:Nat):Int):=(wrap_u64 (by omega) (by omega)).trans (by omega)
 have w2:IntKind.u64.wrap ((d:Int).tdiv (den:Int))=((q1:Nat):Int):=by rw [← Int.ofNat_tdiv,e1];exact wrap_u64 (by omega) (by omega)
 have w3:IntKind.u64.wrap ((q1:Int)*(num:Int))=((q2:Nat):Int):=by
  rw [show ((q1:Int)*(num:Int))=((q1*num:Nat):Int) from (Int.natCast_mul _ _).symm,e2];exact wrap_u64 (by omega) (by omega)
 have w4:IntKind.u64.wrap ((burst:Int)+(q2:Int))=((burst+q2:Nat):Int):=(wrap_u64 (by omega) (by omega)).trans (by omega)
 have w5:(d:Int).tmod (den:Int)=((q3:Nat):Int):=by rw [← e3,Int.ofNat_tmod]
 have w6:IntKind.u64.wrap ((q3:Int)*(num:Int))=((q4:Nat):Int):=by
  rw [show ((q3:Int)*(num:Int))=((q3*num:Nat):Int) from (Int.natCast_mul _ _).symm,e4];exact wrap_u64 (by omega) (by omega)
 have w7:IntKind.u64.wrap ((q4:Int).tdiv (den:Int))=((q5:Nat):Int):=by rw [← Int.ofNat_tdiv,e5];exact wrap_u64 (by omega) (by omega)
 have w8:IntKind.u64.wrap (((burst+q2:Nat):Int)+(q5:Int))=((burst+q2+q5:Nat):Int):=(wrap_u64 (by omega) (by omega)).trans (by omega)
 obtain ⟨most,hmost⟩:∃ most,burst+q2+q5=most:=⟨_,rfl⟩
 rw [hmost] at w8
 have hfit':gsum f t l≤most:=by omega
 repeat (first | refine we_seq ?_ | refine wo_nil ?_ | refine wA ?_)
 refine we_draw (List.range' 0 26) (by kernel_rfl) ?_
 repeat (first | (apply ap_pure;exact rfl;exact rfl;exact trivial;intro L;apply mo_bin;exact rfl;exact rfl;apply bin_sub;exact w1) | (apply ap_pure;exact rfl;exact rfl;exact trivial;intro L;apply mo_bin;exact rfl;exact rfl;apply bin_mul;(first | exact w3 | exact w6)) | (apply ap_pure;exact rfl;exact rfl;exact trivial;intro L;apply mo_bin;exact rfl;exact rfl;apply bin_quo;omega;(first | exact w2 | exact w7)) | (apply ap_pure;exact rfl;exact rfl;exact trivial;intro L;apply mo_bin;exact rfl;exact rfl;apply bin_rem;omega;exact w5) | (apply ap_pure;exact rfl;exact rfl;exact trivial;intro L;apply mo_bin;exact rfl;exact rfl;apply bin_add;(first | exact w4 | exact w8)) | refine aM ?_ | refine aA ?_ | refine aD ?_ | refine aL ?_ | refine ap_end ?_)
 repeat (first | refine we_seq ?_ | (refine wR ?_;try simp only [oS]) | refine wo_nil ?_ | refine wM ?_ | refine wA ?_ | refine wE ?_ | refine we_block ?_)
 refine we_star ((ltInv x a l.length c bx num den burst f t most l L).L (0,[])) (fun h st=>Ent.star (.drop .refl) st) ?_
 refine we_loopN (ltInv x a l.length c bx num den burst f t most l L) (fun i=>l.length-i.1) (0,[]) (Nat.zero_le _) ⟨rfl,rfl,rfl,rfl,rfl,rfl,rfl,trivial⟩ .refl rfl ?_
 rintro ⟨j,_⟩ hj
 replace hj:j≤l.length:=hj
 simp only [ltInv]
 by_cases hlj:j<l.length
 ·obtain ⟨b,o,rfl,hr⟩:=hrd.resolve_left (by omega)
  obtain ⟨yj,hyj⟩:∃ y,l[j]?=some y:=⟨l[j],List.getElem?_eq_getElem hlj⟩
  have r0:Rds L b (o+2*j) [.int .u64 (yj.1:Nat),.int .u64 (yj.2:Nat)]:=fun q v hq=>by
   have h2:q<2:=(List.getElem?_eq_some_iff.1 hq).1
   have:=hr (2*j+q) v (by rw [flat_get (k:=2) (fun _=>rfl) l j q _ hyj h2];exact hq)
   rwa [← Nat.add_assoc] at this
  have hs1:gsum f t (l.take (j+1))=gsum f t (l.take j)+gsum f t [yj]:=by rw [List.take_add_one,hyj,Option.toList_some,gsum_app]
  rw [gsum_one] at hs1
  have hs2:=gsum_le (f:=f) (t:=t) (l:=l) (j:=j+1)
  obtain ⟨s0,hs0⟩:∃ s,gsum f t (l.take j)=s:=⟨_,rfl⟩
  obtain ⟨s1,hs1'⟩:∃ s,gsum f t (l.take (j+1))=s:=⟨_,rfl⟩
  rw [hs0,hs1'] at hs1
  rw [hs1'] at hs2
  rw [hs0]
  obtain ⟨yj1,yj2⟩:=yj
  simp only at r0 hs1
  repeat (first | (apply wo_po;apply mo_indexAddr (r:=o+2*j);exact rfl;exact rfl;omega;omega;omega;exact trivial) | (apply wo_po;apply mo_loadA (vs:=[.int .u64 (yj1:Nat),.int .u64 (yj2:Nat)]);exact rfl;exact rfl;exact r0;exact trivial) | (apply wo_mo;apply mo_alloc;exact trivial) | refine wlssT ?_ | refine we_seq ?_ | (refine wR ?_;try simp only [oS]) | refine wo_nil ?_ | refine wT ?_ | refine we_skip ?_ | refine we_block ?_)
  rintro v' L' ⟨xb,rfl,rfl⟩
  by_cases c1:f≤yj1
  ·by_cases c2:yj1≤t
   ·rw [if_pos ⟨c1,c2⟩] at hs1
    have hsub:IntKind.u64.wrap ((most:Int)-(s0:Int))=((most-s0:Nat):Int):=(wrap_u64 (by omega) (by omega)).trans (by omega)
    have hadd:IntKind.u64.wrap ((s0:Int)+(yj2:Nat))=((s1:Nat):Int):=(wrap_u64 (by omega) (by omega)).trans (by omega)
    repeat (first | (apply wo_pm;apply mo_storeA (c:=0) (k:=0) (a:=0) (vs:=[.int .u64 0,.int .u64 0]);exact rfl;exact rfl;exact rfl;(intro w hw;simp [Value.cells] at hw;rcases hw with rfl | rfl <;> rfl);exact rfl;exact Nat.le_refl 2;exact .here;exact trivial) | (apply wo_po;apply mo_bin;exact rfl;exact rfl;apply bin_sub;exact hsub;exact trivial) | (apply wo_po;apply mo_bin;exact rfl;exact rfl;apply bin_add;exact hadd;exact trivial) | refine wleqT ?_ | refine wgtrF ?_ | refine wgeqT ?_ | refine we_seq ?_ | (refine wR ?_;try simp only [oS]) | refine wo_nil ?_ | refine wM ?_ | refine wA ?_ | refine wK ?_ | refine wD ?_ | refine wL ?_ | refine wadd ?_ | refine wT ?_ | refine wF ?_ | refine we_skip ?_)
    refine at_roundS (B:=B) (I:=ltInv x (some ⟨b,o,none⟩) l.length c bx num den burst f t most l L) (R:=fun q=>l.length-q.1<l.length-j) (j+1,[]) (by show l.length-(j+1)<l.length-j;omega) (by show j+1≤l.length;omega) ?_ (fun h st=>Ent.star (.drop .refl) st) rfl
    refine ⟨rfl,rfl,rfl,?_,rfl,rfl,rfl,trivial⟩
    show _=some (Value.int .u64 ((gsum f t (l.take (j+1)):Nat):Int))
    rw [hs1'];rfl
   ·rw [if_neg (fun h=>c2 h.2)] at hs1
    repeat (first | (apply wo_pm;apply mo_storeA (c:=0) (k:=0) (a:=0) (vs:=[.int .u64 0,.int .u64 0]);exact rfl;exact rfl;exact rfl;(intro w hw;simp [Value.cells] at hw;rcases hw with rfl | rfl <;> rfl);exact rfl;exact Nat.le_refl 2;exact .here;exact trivial) | refine wleqF ?_ | refine wgeqT ?_ | refine we_seq ?_ | (refine wR ?_;try simp only [oS]) | refine wo_nil ?_ | refine wM ?_ | refine wK ?_ | refine wD ?_ | refine wL ?_ | refine wadd ?_ | refine wF ?_ | refine we_skip ?_)
    refine at_roundS (B:=B) (I:=ltInv x (some ⟨b,o,none⟩) l.length c bx num den burst f t most l L) (R:=fun q=>l.length-q.1<l.length-j) (j+1,[]) (by show l.length-(j+1)<l.length-j;omega) (by show j+1≤l.length;omega) ?_ (fun h st=>Ent.star (.drop .refl) st) rfl
    refine ⟨rfl,rfl,rfl,?_,rfl,rfl,rfl,trivial⟩
    show _=some (Value.int .u64 ((gsum f t (l.take (j+1)):Nat):Int))
    rw [hs1',hs1];rfl
  ·rw [if_neg (fun h=>c1 h.1)] at hs1
   repeat (first | (apply wo_pm;apply mo_storeA (c:=0) (k:=0) (a:=0) (vs:=[.int .u64 0,.int .u64 0]);exact rfl;exact rfl;exact rfl;(intro w hw;simp [Value.cells] at hw;rcases hw with rfl | rfl <;> rfl);exact rfl;exact Nat.le_refl 2;exact .here;exact trivial) | refine wgeqF ?_ | refine we_seq ?_ | (refine wR ?_;try simp only [oS]) | refine wo_nil ?_ | refine wM ?_ | (apply wo_no;exact rfl) | refine wJ ?_ | refine wD ?_ | refine wL ?_ | refine wadd ?_ | refine wF ?_ | refine we_skip ?_)
   refine at_roundS (B:=B) (I:=ltInv x (some ⟨b,o,none⟩) l.length c bx num den burst f t most l L) (R:=fun q=>l.length-q.1<l.length-j) (j+1,[]) (by show l.length-(j+1)<l.length-j;omega) (by show j+1≤l.length;omega) ?_ (fun h st=>Ent.star (.drop .refl) st) rfl
   refine ⟨rfl,rfl,rfl,?_,rfl,rfl,rfl,trivial⟩
   show _=some (Value.int .u64 ((gsum f t (l.take (j+1)):Nat):Int))
   rw [hs1',hs1];rfl
 ·obtain rfl:j=l.length:=by omega
  repeat (first | refine wlssF ?_ | refine we_seq ?_ | (refine wR ?_;try simp only [oS]) | refine wo_nil ?_ | refine wA ?_ | refine wF ?_ | refine we_ret ?_ | refine we_exit ?_)
  (first | refine or1 Try.func18 Try.results18 hQ rfl ?_ | refine on1 Try.func18 Try.results18 hQ rfl ?_)
  exact ⟨rfl,rfl,fun h st=>st⟩
end
end
end Go.Proofs.Ytaeegnfbofagcaa
