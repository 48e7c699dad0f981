/- The product of layer 9's blocks as a product of numbers: it is commutative, associative, and has no divisors of nought. Conditions: as each theorem states them. -/
import Derived.Test.YtepkbllcaeceeaaB
namespace Go.Proofs.Ytepkbllcaeceeaa
/-- multiplied by x -/
def mxN (h : Nat) : Nat := (h / 2) ^^^ (if h % 2 = 1 then 299076299051606071403356588563077529600 else 0)
def vN (h : Nat) : Nat → Nat
  | 0 => h
  | i + 1 => mxN (vN h i)
def oN (x h : Nat) : Nat → Nat
  | 0 => 0
  | i + 1 => oN x h i ^^^ (if x.testBit (127 - i) = true then vN h i else 0)
/-- the product -/
def tm (x h : Nat) : Nat := oN x h 128
def G128 (n : Nat) : Prop := n < 340282366920938463463374607431768211456
def one_ : Nat := 170141183460469231731687303715884105728
theorem one_eq : one_ = 2 ^ 127 := by decide +kernel
theorem g128 {n : Nat} : G128 n ↔ n < 2 ^ 128 := by
  unfold G128
  rw [show (2 : Nat) ^ 128 = 340282366920938463463374607431768211456 by decide +kernel]
theorem xsw (a b c d : Nat) : (a ^^^ b) ^^^ (c ^^^ d) = (a ^^^ c) ^^^ (b ^^^ d) := by
  rw [Nat.xor_assoc, ← Nat.xor_assoc b c d, Nat.xor_comm b c, Nat.xor_assoc c b d, ← Nat.xor_assoc]
theorem xlcN (x y z : Nat) : x ^^^ (y ^^^ z) = y ^^^ (x ^^^ z) := by rw [← Nat.xor_assoc, Nat.xor_comm x y, Nat.xor_assoc]
theorem xclN (x y : Nat) : x ^^^ (x ^^^ y) = y := by rw [← Nat.xor_assoc, Nat.xor_self, Nat.zero_xor]
theorem ite_xor {p : Prop} [Decidable p] (a b : Nat) : (if p then a ^^^ b else 0) = (if p then a else 0) ^^^ (if p then b else 0) := by split <;> simp
theorem G128.xor {a b : Nat} (ha : G128 a) (hb : G128 b) : G128 (a ^^^ b) := by rw [g128] at *; exact Nat.xor_lt_two_pow ha hb
theorem G128.zero : G128 0 := by unfold G128; decide
theorem G128.ite {p : Prop} [Decidable p] {a : Nat} (ha : G128 a) : G128 (if p then a else 0) := by split <;> first | exact ha | exact G128.zero
theorem one_ok : G128 one_ := by unfold G128 one_; decide
theorem mx_xor (a b : Nat) : mxN (a ^^^ b) = mxN a ^^^ mxN b := by
  unfold mxN
  have h1 : (a ^^^ b) / 2 = a / 2 ^^^ b / 2 := by simpa using Nat.xor_div_two_pow (a := a) (b := b) (n := 1)
  have h2 : (a ^^^ b) % 2 = (a % 2 ^^^ b % 2) := by simpa using Nat.xor_mod_two_pow (a := a) (b := b) (n := 1)
  rw [h1, h2]
  rcases Nat.mod_two_eq_zero_or_one a with ha | ha <;> rcases Nat.mod_two_eq_zero_or_one b with hb | hb <;> rw [ha, hb] <;> simp [Nat.xor_assoc, Nat.xor_comm, xlcN]
theorem mx_zero : mxN 0 = 0 := by decide
theorem mx_ok {h : Nat} (hh : G128 h) : G128 (mxN h) := by
  unfold mxN
  refine G128.xor ?_ (G128.ite ?_)
  · unfold G128 at *; omega
  · unfold G128; decide
theorem vN_xor (a b : Nat) : ∀ i, vN (a ^^^ b) i = vN a i ^^^ vN b i
  | 0 => rfl
  | i + 1 => by simp only [vN, vN_xor a b i, mx_xor]
theorem vN_ok {h : Nat} (hh : G128 h) : ∀ i, G128 (vN h i)
  | 0 => hh
  | i + 1 => mx_ok (vN_ok hh i)
theorem vN_mx (h : Nat) : ∀ i, vN (mxN h) i = mxN (vN h i)
  | 0 => rfl
  | i + 1 => by simp only [vN, vN_mx h i]
theorem vN_zero : ∀ i, vN 0 i = 0
  | 0 => rfl
  | i + 1 => by simp only [vN, vN_zero i, mx_zero]
theorem oN_ok {h : Nat} (x : Nat) (hh : G128 h) : ∀ i, G128 (oN x h i)
  | 0 => G128.zero
  | i + 1 => (oN_ok x hh i).xor (G128.ite (vN_ok hh i))
theorem oN_r (x a b : Nat) : ∀ i, oN x (a ^^^ b) i = oN x a i ^^^ oN x b i
  | 0 => by simp [oN]
  | i + 1 => by simp only [oN, oN_r x a b i, vN_xor, ite_xor]; exact xsw _ _ _ _
theorem oN_l (x y h : Nat) : ∀ i, oN (x ^^^ y) h i = oN x h i ^^^ oN y h i
  | 0 => by simp [oN]
  | i + 1 => by
    simp only [oN, oN_l x y h i, Nat.testBit_xor]
    rw [← xsw]
    congr 1
    cases x.testBit (127 - i) <;> cases y.testBit (127 - i) <;> simp
theorem oN_mx (x h : Nat) : ∀ i, oN x (mxN h) i = mxN (oN x h i)
  | 0 => mx_zero.symm
  | i + 1 => by
    simp only [oN, oN_mx x h i, vN_mx, mx_xor]
    congr 1
    split
    · rfl
    · exact mx_zero.symm
theorem oN_vN (x h i : Nat) : ∀ j, oN x (vN h j) i = vN (oN x h i) j
  | 0 => rfl
  | j + 1 => by simp only [vN, oN_mx, oN_vN x h i j]
theorem oN_zr (x : Nat) : ∀ i, oN x 0 i = 0
  | 0 => rfl
  | i + 1 => by simp [oN, oN_zr x i, vN_zero]
theorem oN_zl (h : Nat) : ∀ i, oN 0 h i = 0
  | 0 => rfl
  | i + 1 => by simp [oN, oN_zl h i]
theorem oN_oN (x y h i : Nat) : ∀ j, oN x (oN y h j) i = oN y (oN x h i) j
  | 0 => by simp [oN, oN_zr]
  | j + 1 => by
    simp only [oN, oN_r, oN_oN x y h i j]
    congr 1
    split
    · exact oN_vN x h i j
    · exact oN_zr x i
theorem one_bit (k : Nat) : one_.testBit k = decide (127 = k) := by rw [one_eq]; exact Nat.testBit_two_pow
theorem oN_one (h : Nat) : ∀ i, oN one_ h (i + 1) = h
  | 0 => by simp [oN, one_bit, vN]
  | i + 1 => by
    rw [oN, oN_one h i, one_bit, if_neg (by simp; omega), Nat.xor_zero]
theorem vN_one : ∀ i, i ≤ 127 → vN one_ i = 2 ^ (127 - i)
  | 0, _ => one_eq
  | i + 1, h => by
    simp only [vN]
    rw [vN_one i (by omega), show 127 - i = (127 - (i + 1)) + 1 by omega, Nat.pow_succ]
    unfold mxN
    rw [Nat.mul_div_cancel _ (by decide), if_neg (by omega), Nat.xor_zero]
theorem oN_bits (x : Nat) : ∀ i, i ≤ 128 → ∀ k, (oN x one_ i).testBit k = (decide (k ≤ 127 ∧ 127 - k < i) && x.testBit k)
  | 0, _, k => by simp [oN]
  | i + 1, h, k => by
    rw [oN, Nat.testBit_xor, oN_bits x i (by omega) k, vN_one i (by omega)]
    by_cases hk : k = 127 - i
    · subst hk
      have e1 : decide (127 - i ≤ 127 ∧ 127 - (127 - i) < i) = false := decide_eq_false (by omega)
      have e2 : decide (127 - i ≤ 127 ∧ 127 - (127 - i) < i + 1) = true := decide_eq_true (by omega)
      rw [e1, e2]
      cases x.testBit (127 - i) <;> simp
    · have e1 : decide (k ≤ 127 ∧ 127 - k < i) = decide (k ≤ 127 ∧ 127 - k < i + 1) := by
        apply decide_eq_decide.2
        omega
      rw [e1]
      have e2 : (if x.testBit (127 - i) = true then 2 ^ (127 - i) else 0).testBit k = false := by
        split
        · rw [Nat.testBit_two_pow]; exact decide_eq_false (fun e => hk e.symm)
        · exact Nat.zero_testBit k
      rw [e2, Bool.xor_false]
theorem tm_one_l (h : Nat) : tm one_ h = h := oN_one h 127
theorem tm_one_r {x : Nat} (hx : G128 x) : tm x one_ = x := by
  apply Nat.eq_of_testBit_eq
  intro k
  unfold tm
  rw [oN_bits x 128 (Nat.le_refl _) k]
  by_cases hk : k ≤ 127
  · rw [decide_eq_true ⟨hk, by omega⟩, Bool.true_and]
  · rw [decide_eq_false (fun h => hk h.1), Bool.false_and]
    rw [g128] at hx
    exact (Nat.testBit_lt_two_pow (Nat.lt_of_lt_of_le hx (Nat.pow_le_pow_right (by decide) (by omega)))).symm
theorem tm_ok {x h : Nat} (hh : G128 h) : G128 (tm x h) := oN_ok x hh 128
theorem tm_r (x a b : Nat) : tm x (a ^^^ b) = tm x a ^^^ tm x b := oN_r x a b 128
theorem tm_l (x y h : Nat) : tm (x ^^^ y) h = tm x h ^^^ tm y h := oN_l x y h 128
theorem tm_tm (x y h : Nat) : tm x (tm y h) = tm y (tm x h) := oN_oN x y h 128 128
theorem tm_zr (x : Nat) : tm x 0 = 0 := oN_zr x 128
theorem tm_zl (x : Nat) : tm 0 x = 0 := oN_zl x 128
theorem tm_comm {x h : Nat} (hx : G128 x) (hh : G128 h) : tm x h = tm h x := by
  have h1 : tm x (tm h one_) = tm h (tm x one_) := tm_tm x h one_
  rwa [tm_one_r hh, tm_one_r hx] at h1
theorem tm_assoc {x y z : Nat} (_hx : G128 x) (hy : G128 y) (hz : G128 z) : tm (tm x y) z = tm x (tm y z) := by
  rw [tm_comm (tm_ok hy) hz, tm_tm z x y, tm_comm hz hy]
/-- squared so often -/
def fr : Nat → Nat → Nat
  | 0, a => a
  | n + 1, a => tm (fr n a) (fr n a)
theorem fr_ok {a : Nat} (ha : G128 a) : ∀ n, G128 (fr n a)
  | 0 => ha
  | n + 1 => tm_ok (fr_ok ha n)
theorem sq_xor {a b : Nat} (ha : G128 a) (hb : G128 b) : tm (a ^^^ b) (a ^^^ b) = tm a a ^^^ tm b b := by
  rw [tm_l, tm_r, tm_r, tm_comm hb ha, Nat.xor_assoc, xclN]
theorem sq_tm {a b : Nat} (ha : G128 a) (hb : G128 b) : tm (tm a b) (tm a b) = tm (tm a a) (tm b b) := by
  rw [tm_assoc ha hb (tm_ok hb), tm_tm b a b, ← tm_assoc ha ha (tm_ok hb)]
theorem fr_xor {a b : Nat} (ha : G128 a) (hb : G128 b) : ∀ n, fr n (a ^^^ b) = fr n a ^^^ fr n b
  | 0 => rfl
  | n + 1 => by simp only [fr, fr_xor ha hb n]; exact sq_xor (fr_ok ha n) (fr_ok hb n)
theorem fr_tm {a b : Nat} (ha : G128 a) (hb : G128 b) : ∀ n, fr n (tm a b) = tm (fr n a) (fr n b)
  | 0 => rfl
  | n + 1 => by simp only [fr, fr_tm ha hb n]; exact sq_tm (fr_ok ha n) (fr_ok hb n)
theorem fr_one : ∀ n, fr n one_ = one_
  | 0 => rfl
  | n + 1 => by simp only [fr, fr_one n]; exact tm_one_l one_
theorem fr_zero : ∀ n, fr n 0 = 0
  | 0 => rfl
  | n + 1 => by simp only [fr, fr_zero n]; exact tm_zr 0
/-- the product, round by round -/
def tf (x : Nat) : Nat → Nat → Nat → Nat → Nat
  | 0, _, _, out => out
  | n + 1, i, h, out => tf x n (i + 1) (mxN h) (bif x.testBit (127 - i) then out ^^^ h else out)
theorem tf_oN (x h : Nat) : ∀ n i, tf x n i (vN h i) (oN x h i) = oN x h (i + n)
  | 0, i => rfl
  | n + 1, i => by
    rw [tf, show mxN (vN h i) = vN h (i + 1) from rfl]
    have e : (bif x.testBit (127 - i) then oN x h i ^^^ vN h i else oN x h i) = oN x h (i + 1) := by
      rw [oN]
      cases x.testBit (127 - i) <;> simp
    rw [e, tf_oN x h n (i + 1)]
    congr 1
    omega
def tq (x h : Nat) : Nat := tf x 128 0 h 0
theorem tq_tm (x h : Nat) : tq x h = tm x h := by have := tf_oN x h 128 0; simpa [tq, tm, vN, oN] using this
/-- x, and its squares -/
def sqs : List Nat := [
  85070591730234615865843651857942052864, 42535295865117307932921825928971026432, 10633823966279326983230456482242756608, 664613997892457936451903530140172288,
  2596148429267413814265248164610048, 39614081257132168796771975168, 9223372036854775808, 299076299051606071403356588563077529600,
  223320687885582936303096647119756328960, 181439622058466316765484364476618637312, 170808393606790959443136713929011494912, 170143779648512580402633737760820723712,
  170141183500083312998042844553285730304, 128935115591136839677961803087095005184, 26521923513571051041719120380595011584, 2713827814269182967778813927160283136,
  19892309668726792795704411864237637640, 299897182589127159334264933479155400801, 159959758286485747050506419494376347345, 60525571083703940089607738420903979245,
  209028883661647972087190873557067101568, 244050288576999060854378104821219929480, 237124357734750947154885079710004979137, 241433926662288477711420685110953489857,
  244676285958628288050097968055285260259, 207624115730074607518965360287154315741, 45542536947308703482228433553521892404, 196875341648970848998312455873843130148,
  268802494694071371274580153178105082024, 203098531765952221901263434944936830931, 89635207793561493853031727954670226635, 17635536657554160223891345761552251654,
  112489354486133924937594606953927062558, 103542367381657779604032134892329681779, 19099574584433948515609566233580374867, 62115640240044381482841550280024960971,
  50391228177221979819227125881791319300, 163695713725096451390993957098536584760, 41734415099232896947411929953982010711, 234562838271090350528670298339903111163,
  96139727577274542912306893714895809048, 28368503231412555867187261962821942245, 203416903988108335017923413065992258531, 214259016414980319051799350134543084407,
  73761869416664513792330957753545523659, 24632501774629228702992643922598158118, 113456367860289333607009297114367807630, 160653902476767024414754363815833781237,
  254556726520323479364746206855480305863, 4526227804035031471510524530990904287, 134786544889666418473682136460080270514, 291303763298723517696563179989188587186,
  139812049077265991715376779331566419600, 260696688444144022815847602138927665670, 332355165341978746073769615818200980028, 317717234933355194415885652434082185071,
  274610808979437739965964759769346097198, 28801240844297479428334315665000247021, 229841481223330373219039180653320414504, 140375587621047260250014972709801025785,
  45391486184925167126930174384492543006, 123384984270966172455561567439734926201, 321794773840327928520107016027662330812, 70861984667100364040012540112209736303,
  148340141898206687063724843373059155590, 221090557989910989731917926507314198846, 82107999243414323334944566005053956931, 54693193818181484431854231401205703879,
  114536429382317831486454820622538248701, 115564013791287421977695069983604732462, 228926611396314964875483011635444102383, 74321643873517566600337472819924213644,
  202229157046156339513618629722341687123, 157409786558764528257684997350612823395, 294563800109893142238943126137925063391, 260885161595022357435290198221328107578,
  251031254701039333738288871179620003195, 93335358315670370022835900135914926392, 37022851862275889642258560040094869845, 157396171043600723384219653110421305181,
  125152375311858254124736471056591340958, 204118166209598140060728681112589250131, 216285818026694108828300809445219224393, 244033976791019852612000492304906626208,
  124253523478711657314458879051421582746, 293616368445771820056566621625277032043, 186639441330219146939608000567819265044, 37660355283750314002486891758976393534,
  128624545538626592230258248048941663049, 46064705648526900308498297178837823146, 260036059617357365198688971228453385693, 291073779213099574970310706157201503772,
  310785363655102026426914113103925009399, 272506523232356647620379317271510663777, 226218601711134272319338586873534916345, 247103177204134515436166145119768316982,
  296059664219031399650613090778401687298, 177125429678148108093716318237016710788, 56547780582645960279259354298804941592, 83593973713936815885639057414611377989,
  226778970597582024864124484835733948113, 191022259757708288983048059641732530789, 36571037404758589115503605558346024163, 33873532655115029667423043523058474335,
  133442055764004579282253164311215922968, 269156978868230004550242805540229117255, 263077746039643153986979754687578242813, 167997739037989486942123477009247278,
  245359703656536202643261748345171078861, 319669061538528860558562957135884659632, 93889542977846094186452460275144478876, 110569990996931783534670918714759856375,
  227500060518238923954784790963950870243, 99606112796630066198039008929586982741, 174405506854454285586332880354897487229, 30197492982161167704480518383037698446,
  247147745240409908531404287514350405079, 71492541200904486072911206743184881241, 73015403472221726317851518097686579468, 216919812705488069028661448664747747067,
  209898397545949153745892400055909254160, 128865345721593477062749972881714209158, 220227872485849155213274304514117291316, 34003972662229264603835496269624822572,
  98297600919465554377191492341797370083, 71019247396963060562882697576803300823, 120474473878528672766517451866316838489, 50130884412459684338974012517024680228,
  85070591730234615865843651857942052864]
def chainB : List Nat → Bool
  | a :: b :: r => tq a a == b && chainB (b :: r)
  | _ => true
theorem chain_fr : ∀ (l : List Nat) (a n : Nat) (b : Nat), chainB (a :: l) = true → n = l.length → b = (a :: l).getLast (by simp) → ∀ x m, fr m x = a → fr (m + n) x = b
  | [], a, n, b, _, hn, hb, x, m, hx => by subst hn; subst hb; exact hx
  | c :: r, a, n, b, h, hn, hb, x, m, hx => by
    simp only [chainB, Bool.and_eq_true, beq_iff_eq] at h
    have h1 : fr (m + 1) x = c := by rw [fr, hx, ← tq_tm]; exact h.1
    subst hn
    have := chain_fr r c r.length b h.2 rfl (by rw [hb]; simp) x (m + 1) h1
    rw [List.length_cons, show m + (r.length + 1) = m + 1 + r.length by omega]
    exact this
def gen_ : Nat := 85070591730234615865843651857942052864
theorem gen_ok_ : G128 gen_ := by unfold G128 gen_; decide
theorem sqs_ok : chainB sqs = true := by decide +kernel
theorem sqs_form : ∃ l, sqs = gen_ :: l ∧ l.length = 128 ∧ (gen_ :: l).getLast (by simp) = gen_ := ⟨sqs.tail, by decide +kernel, by decide +kernel, by decide +kernel⟩
theorem fr_gen : fr 128 gen_ = gen_ := by
  obtain ⟨l, h1, h2, h3⟩ := sqs_form
  have h4 := sqs_ok
  rw [h1] at h4
  have := chain_fr l gen_ 128 gen_ h4 h2.symm h3.symm gen_ 0 rfl
  rwa [Nat.zero_add] at this
theorem tm_gen {h : Nat} : tm gen_ h = mxN h := by
  have hb : ∀ k, gen_.testBit k = decide (126 = k) := fun k => by rw [show gen_ = 2 ^ 126 by decide +kernel]; exact Nat.testBit_two_pow
  have : ∀ i, oN gen_ h (i + 2) = mxN h := by
    intro i
    induction i with
    | zero => simp [oN, hb, vN]
    | succ i ih =>
      rw [oN, ih, hb, if_neg (by simp; omega), Nat.xor_zero]
  exact this 126
theorem fr_vone : ∀ i, fr 128 (vN one_ i) = vN one_ i
  | 0 => fr_one 128
  | i + 1 => by
    rw [vN, ← tm_gen, fr_tm gen_ok_ (vN_ok one_ok i), fr_gen, fr_vone i]
theorem fr_oone (a : Nat) : ∀ i, fr 128 (oN a one_ i) = oN a one_ i
  | 0 => fr_zero 128
  | i + 1 => by
    rw [oN, fr_xor (oN_ok a one_ok i) (G128.ite (vN_ok one_ok i)), fr_oone a i]
    congr 1
    split
    · exact fr_vone i
    · exact fr_zero 128
set_option maxRecDepth 100000 in
theorem fr_all {a : Nat} (ha : G128 a) : fr 128 a = a := by
  have h := fr_oone a 128
  have e : oN a one_ 128 = a := tm_one_r ha
  rwa [e] at h
/-- the powers' products -/
def ep (a : Nat) : Nat → Nat
  | 0 => one_
  | n + 1 => tm (ep a n) (fr n a)
def fp (a : Nat) : Nat → Nat
  | 0 => one_
  | n + 1 => tm (fp a n) (fr (n + 1) a)
theorem ep_ok {a : Nat} (ha : G128 a) : ∀ n, G128 (ep a n)
  | 0 => one_ok
  | n + 1 => tm_ok (fr_ok ha n)
theorem fp_ok {a : Nat} (ha : G128 a) : ∀ n, G128 (fp a n)
  | 0 => one_ok
  | n + 1 => tm_ok (fr_ok ha (n + 1))
theorem ep_fp {a : Nat} (ha : G128 a) : ∀ n, ep a (n + 1) = tm a (fp a n)
  | 0 => by simp only [ep, fp, fr]; rw [tm_one_l, tm_one_r ha]
  | n + 1 => by rw [ep, ep_fp ha n, fp, tm_assoc ha (fp_ok ha n) (fr_ok ha (n + 1))]
theorem sq_ep {a : Nat} (ha : G128 a) : ∀ n, tm (ep a n) (ep a n) = fp a n
  | 0 => tm_one_l one_
  | n + 1 => by rw [ep, sq_tm (ep_ok ha n) (fr_ok ha n), sq_ep ha n, fp]; rfl
theorem ep_idem {a : Nat} (ha : G128 a) : tm (ep a 128) (ep a 128) = ep a 128 := by
  rw [sq_ep ha 128, ep_fp ha 127, fp, fr_all ha, tm_comm (fp_ok ha 127) ha]
theorem a_ep {a : Nat} (ha : G128 a) : ∀ n, tm a (ep a n) = fr n a
  | 0 => tm_one_r ha
  | n + 1 => by rw [ep, ← tm_assoc ha (ep_ok ha n) (fr_ok ha n), a_ep ha n]; rfl
/-- a linear map by its columns -/
def lap : List Nat → Nat → Nat → Nat
  | [], _, _ => 0
  | c :: r, j, y => (bif y.testBit j then c else 0) ^^^ lap r (j + 1) y
theorem lap_xor (a b : Nat) : ∀ (l : List Nat) (j : Nat), lap l j (a ^^^ b) = lap l j a ^^^ lap l j b
  | [], _ => by simp [lap]
  | c :: r, j => by
    simp only [lap, Nat.testBit_xor, lap_xor a b r]
    rw [xsw]
    congr 1
    cases a.testBit j <;> cases b.testBit j <;> simp
theorem lap_zero : ∀ (l : List Nat) (j : Nat), lap l j 0 = 0
  | [], _ => rfl
  | c :: r, j => by simp [lap, lap_zero r]
def cert : List Nat := [
  0, 6161591008139076202154902373133594561, 71430717218983613641036104277415506289, 87518597585245962833849474628053070758,
  72921817864677867521778898634038080609, 163309321578052146879237778733101511783, 126814247099887467207929949960147586332, 133487668004820722767044853458355047125,
  108887185710678174598840578861931466132, 72978216601350599296199603180564021825, 126976600203468727039316187211004055892, 49689517519420395515082114066310337331,
  12764899024296983899235621676887115841, 59792954277794326371429463258526948146, 275464514806027128612938827324864, 33882886127255646541338116557250298163,
  133385434108064708788808215410435911893, 153238470225796905537047657204766862374, 127777348636302309636952298273557535380, 58594334107495617071392172125656399538,
  5725366257701666555538562805218717057, 159324042485362592547018579093184240551, 149021274876537960721224429182834492454, 94333773739946854309780815578084996199,
  161752945482599484730126084874801441767, 115575792119390728221592460023876181333, 133436244703473040169882794575366898389, 34751610155981195849944733847405496627,
  100972845268357601278728964017462078439, 44935323831972008745566419208193456946, 132003651752985294974180122299820886164, 45594221442569777339127844318073854322,
  100983558286137050684044238585428660711, 140308235276559149970208740923126577813, 92325303522414418149753570460923091879, 26944628100264108509229864938392397555,
  81071795988965022717357904530596407232, 58275656592719279154056000246173111091, 51613027339492204128265575524803459891, 142140898696765075202304690604976981845,
  53639910565545342273528145980335791795, 4726979706490419237355323591502507968, 161542955870533464563010084267448332775, 65334779303751560239471195525024588352,
  122557457634345817322758110469731963540, 79569572988994598121356082874814992321, 9537274821874957483351388617584152641, 109427184872331881977228478262674814292,
  96504253903287235160744645914913229863, 35809052500294759256374056413191545715, 63089105448741488643398279942380763954, 84108490886122099842324906724524496768,
  161537358671016203777973217828391545831, 49921000058860506912943830473554996979, 113870918609522322281985099445019275925, 45994406431766860863727072382817147250,
  6116654749483988959971426010360459777, 88394181539591460295416373139500891046, 93226277353508642900164249188457535015, 123506241354959402090274531190302866772,
  72992884249465865451566362034747193217, 123492369307601207700488716387690115284, 67288019353279926038130604499846823936, 96617416833907240315124182200439430055,
  6161591008139076220601646446843146177, 87518597585245962796955986480633967526, 163309321578052146805450802438263305319, 133487668004820722619470900868678634197,
  72978216601350599591347508359916847681, 49689517519420396105377924425015989043, 59792954277794325190837842541115644722, 33882886127255648902521357992072905011,
  153238470225796900814681174335121648678, 58594334107495626516125137864946826930, 159324042485362573657552647614603385767, 94333773739946892088712678535246705767,
  115575792119390803779456185938199600469, 34751610155981346965672185676052334899, 44935323831971706514111515550899780402, 45594221442570381802037651632661207410,
  140308235276560358896028355552301283989, 26944628100266526360869094196741809907, 58275656592714443450777541729474286387, 142140898696755403795747773571579332437,
  4726979706471076424241489524707209152, 65334779303712874613243527391433990720, 79569572989071969373811419141996187585, 109427184872177139472317805728312423764,
  35809052500604244266195401481916326771, 84108490886741069861967596861974058880, 49921000057622566873658450198655872755, 45994406429290980785156311833018898802,
  88394181544543220452557894239097387942, 123506241345055881775991488991109872980, 123492369287794167071922631989304127700, 96617416873521321572256350997211405223,
  87518597506017800282691648887090017190, 133487668163277047647999576055766534869, 49689517202507746048320574050840187699, 33882886761080949016636058740424507699,
  58594332839845026287895736368243621554, 94333771204645691632253875541840295015, 34751615226583747878589791662865156403, 45594211301365579976202439659035564402,
  26944648382676130012539518143993095923, 142140858131936196492406925677076760405, 65334698174074460006561831602428846656, 109427022612900310258954414150302135636,
  84108166368187411435240813705953482624, 45993757392183663931702745520977746290, 123504943270841248069084356367027567956, 96614820725092054158442085749046795175,
  133492860460135582475628106552095754965, 33893271354798018671893119733082947891, 94354540392079830942767997527157175399, 45552672926497301355174195688401803634,
  142223934881672753734463413618344281941, 109593176112373424743067390032837178708, 46326064391129892899928697286047832434, 95950206727199596221990182218906622887,
  32564043359013102798989312672802603315, 42894216934927469609366581567841114482, 114910088095513088234682618273958557012, 85316382760920269238759725736663866279,
  64161864867486123575827494532326627698, 127851678626037577171681551665634892711, 42781086895802961305837899807692839847, 22349210433241643211303706255459310228]
theorem cert_ok : ((List.range 127).all fun k => lap cert 0 (tq (2 ^ k) (2 ^ k) ^^^ 2 ^ k) == 2 ^ k) = true := by decide +kernel
theorem cert_at {k : Nat} (hk : k < 127) : lap cert 0 (tm (2 ^ k) (2 ^ k) ^^^ 2 ^ k) = 2 ^ k := by
  have := List.all_eq_true.1 cert_ok k (List.mem_range.2 hk)
  rwa [beq_iff_eq, tq_tm] at this
theorem mod_step (a n : Nat) : a % 2 ^ (n + 1) = a % 2 ^ n ^^^ (if a.testBit n = true then 2 ^ n else 0) := by
  apply Nat.eq_of_testBit_eq
  intro k
  rw [Nat.testBit_mod_two_pow, Nat.testBit_xor, Nat.testBit_mod_two_pow]
  by_cases hk : k = n
  · subst hk
    rw [decide_eq_true (Nat.lt_succ_self _), decide_eq_false (Nat.lt_irrefl _)]
    cases a.testBit k <;> simp
  · have e1 : decide (k < n + 1) = decide (k < n) := decide_eq_decide.2 (by omega)
    have e2 : (if a.testBit n = true then 2 ^ n else 0).testBit k = false := by
      split
      · rw [Nat.testBit_two_pow]; exact decide_eq_false (fun e => hk e.symm)
      · exact Nat.zero_testBit k
    rw [e1, e2, Bool.xor_false]
theorem mod_ok (a : Nat) {n : Nat} (hn : n ≤ 128) : G128 (a % 2 ^ n) := by
  rw [g128]
  exact Nat.lt_of_lt_of_le (Nat.mod_lt _ (Nat.two_pow_pos n)) (Nat.pow_le_pow_right (by decide) hn)
theorem pow_ok_ {n : Nat} (hn : n < 128) : G128 (2 ^ n) := by
  rw [g128]
  exact Nat.pow_lt_pow_right (by decide) hn
/-- what the certificate says of every number -/
def cm (a : Nat) : Nat := lap cert 0 (tm a a ^^^ a)
theorem cm_xor {a b : Nat} (ha : G128 a) (hb : G128 b) : cm (a ^^^ b) = cm a ^^^ cm b := by
  unfold cm
  rw [sq_xor ha hb, xsw, lap_xor]
theorem cm_zero : cm 0 = 0 := by unfold cm; rw [tm_zr]; exact lap_zero _ _
theorem cm_mod (a : Nat) : ∀ n, n ≤ 127 → cm (a % 2 ^ n) = a % 2 ^ n
  | 0, _ => by rw [Nat.pow_zero, Nat.mod_one]; exact cm_zero
  | n + 1, h => by
    rw [mod_step, cm_xor (mod_ok a (by omega)) (G128.ite (pow_ok_ (by omega))), cm_mod a n (by omega)]
    congr 1
    split
    · exact cert_at (by omega)
    · exact cm_zero
theorem cm_all {a : Nat} (ha : G128 a) : cm a = a % 2 ^ 127 := by
  have h1 := mod_step a 127
  rw [g128] at ha
  rw [Nat.mod_eq_of_lt ha] at h1
  have h2 : cm (if a.testBit 127 = true then 2 ^ 127 else 0) = 0 := by
    split
    · unfold cm
      rw [← one_eq, tm_one_l, Nat.xor_self]
      exact lap_zero _ _
    · exact cm_zero
  conv => lhs; rw [h1]
  rw [cm_xor (mod_ok a (by decide)) (G128.ite (pow_ok_ (by decide))), h2, Nat.xor_zero, cm_mod a 127 (by decide)]
theorem idem_two {e : Nat} (he : G128 e) (h : tm e e = e) : e = 0 ∨ e = one_ := by
  have h1 : cm e = 0 := by unfold cm; rw [h, Nat.xor_self]; exact lap_zero _ _
  rw [cm_all he] at h1
  have h2 : (2 : Nat) ^ 127 = 170141183460469231731687303715884105728 := by decide +kernel
  rw [h2] at h1
  unfold G128 at he
  unfold one_
  omega
/-- no divisors of nought -/
theorem tm_nozero {a b : Nat} (ha : G128 a) (hb : G128 b) (h : tm a b = 0) : a = 0 ∨ b = 0 := by
  rcases idem_two (ep_ok ha 128) (ep_idem ha) with h0 | h1
  · left
    have h2 := a_ep ha 128
    rw [h0, tm_zr, fr_all ha] at h2
    exact h2.symm
  · right
    rw [ep_fp ha 127] at h1
    have h2 : tm (tm a (fp a 127)) b = b := by rw [h1]; exact tm_one_l b
    rw [tm_comm ha (fp_ok ha 127), tm_assoc (fp_ok ha 127) ha hb, h, tm_zr] at h2
    exact h2.symm
theorem tm_inj {a b h : Nat} (ha : G128 a) (hb : G128 b) (hh : G128 h) (h0 : h ≠ 0) (e : tm a h = tm b h) : a = b := by
  have h1 : tm (a ^^^ b) h = 0 := by rw [tm_l, e, Nat.xor_self]
  rcases tm_nozero (ha.xor hb) hh h1 with h2 | h2
  · have h3 : (a ^^^ b) ^^^ b = b := by rw [h2, Nat.zero_xor]
    rw [Nat.xor_assoc, Nat.xor_self, Nat.xor_zero] at h3
    exact h3
  · exact absurd h2 h0
attribute [irreducible] tm tq fr
end Go.Proofs.Ytepkbllcaeceeaa
