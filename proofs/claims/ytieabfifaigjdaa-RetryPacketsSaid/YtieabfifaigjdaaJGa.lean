/- Layer 9: plain functions, contracts. Conditions: as each theorem states them. -/
import Derived.Test.YtieabfifaigjdaaB
import Derived.Test.YtieabfifaigjdaaJEa
import Derived.Test.YtieabfifaigjdaaJEb
import Derived.Test.YtieabfifaigjdaaMK
/- The product of layer 9's blocks as a product of numbers: it is commutative, associative, and has no divisors of nought. Conditions: as each theorem states them. -/
namespace Go.Proofs.Ytieabfifaigjdaa
/-- multiplied by x -/
def mxN (h : Nat) : Nat := (h / 2) ^^^ (if h % 2 = 1 then 299076299051606071403356588563077529600 else 0)
def vN (h : Nat) : Nat → Nat
  | 0 => h
  | i + 1 => mxN (vN h i)
def oN (x h : Nat) : Nat → Nat
  | 0 => 0
  | i + 1 => oN x h i ^^^ (if x.testBit (127 - i) = true then vN h i else 0)
/-- the product -/
def tm (x h : Nat) : Nat := oN x h 128
def G128 (n : Nat) : Prop := n < 340282366920938463463374607431768211456
def one_ : Nat := 170141183460469231731687303715884105728
theorem one_eq : one_ = 2 ^ 127 := by decide +kernel
theorem g128 {n : Nat} : G128 n ↔ n < 2 ^ 128 := by
  unfold G128
  rw [show (2 : Nat) ^ 128 = 340282366920938463463374607431768211456 by decide +kernel]
theorem xsw (a b c d : Nat) : (a ^^^ b) ^^^ (c ^^^ d) = (a ^^^ c) ^^^ (b ^^^ d) := by
  rw [Nat.xor_assoc, ← Nat.xor_assoc b c d, Nat.xor_comm b c, Nat.xor_assoc c b d, ← Nat.xor_assoc]
theorem xlcN (x y z : Nat) : x ^^^ (y ^^^ z) = y ^^^ (x ^^^ z) := by rw [← Nat.xor_assoc, Nat.xor_comm x y, Nat.xor_assoc]
theorem xclN (x y : Nat) : x ^^^ (x ^^^ y) = y := by rw [← Nat.xor_assoc, Nat.xor_self, Nat.zero_xor]
theorem ite_xor {p : Prop} [Decidable p] (a b : Nat) : (if p then a ^^^ b else 0) = (if p then a else 0) ^^^ (if p then b else 0) := by split <;> simp
theorem G128.xor {a b : Nat} (ha : G128 a) (hb : G128 b) : G128 (a ^^^ b) := by rw [g128] at *; exact Nat.xor_lt_two_pow ha hb
theorem G128.zero : G128 0 := by unfold G128; decide
theorem G128.ite {p : Prop} [Decidable p] {a : Nat} (ha : G128 a) : G128 (if p then a else 0) := by split <;> first | exact ha | exact G128.zero
theorem one_ok : G128 one_ := by unfold G128 one_; decide
theorem mx_xor (a b : Nat) : mxN (a ^^^ b) = mxN a ^^^ mxN b := by
  unfold mxN
  have h1 : (a ^^^ b) / 2 = a / 2 ^^^ b / 2 := by simpa using Nat.xor_div_two_pow (a := a) (b := b) (n := 1)
  have h2 : (a ^^^ b) % 2 = (a % 2 ^^^ b % 2) := by simpa using Nat.xor_mod_two_pow (a := a) (b := b) (n := 1)
  rw [h1, h2]
  rcases Nat.mod_two_eq_zero_or_one a with ha | ha <;> rcases Nat.mod_two_eq_zero_or_one b with hb | hb <;> rw [ha, hb] <;> simp [Nat.xor_assoc, Nat.xor_comm, xlcN]
theorem mx_zero : mxN 0 = 0 := by decide
theorem mx_ok {h : Nat} (hh : G128 h) : G128 (mxN h) := by
  unfold mxN
  refine G128.xor ?_ (G128.ite ?_)
  · unfold G128 at *; omega
  · unfold G128; decide
theorem vN_xor (a b : Nat) : ∀ i, vN (a ^^^ b) i = vN a i ^^^ vN b i
  | 0 => rfl
  | i + 1 => by simp only [vN, vN_xor a b i, mx_xor]
theorem vN_ok {h : Nat} (hh : G128 h) : ∀ i, G128 (vN h i)
  | 0 => hh
  | i + 1 => mx_ok (vN_ok hh i)
theorem vN_mx (h : Nat) : ∀ i, vN (mxN h) i = mxN (vN h i)
  | 0 => rfl
  | i + 1 => by simp only [vN, vN_mx h i]
theorem vN_zero : ∀ i, vN 0 i = 0
  | 0 => rfl
  | i + 1 => by simp only [vN, vN_zero i, mx_zero]
theorem oN_ok {h : Nat} (x : Nat) (hh : G128 h) : ∀ i, G128 (oN x h i)
  | 0 => G128.zero
  | i + 1 => (oN_ok x hh i).xor (G128.ite (vN_ok hh i))
theorem oN_r (x a b : Nat) : ∀ i, oN x (a ^^^ b) i = oN x a i ^^^ oN x b i
  | 0 => by simp [oN]
  | i + 1 => by simp only [oN, oN_r x a b i, vN_xor, ite_xor]; exact xsw _ _ _ _
theorem oN_l (x y h : Nat) : ∀ i, oN (x ^^^ y) h i = oN x h i ^^^ oN y h i
  | 0 => by simp [oN]
  | i + 1 => by
    simp only [oN, oN_l x y h i, Nat.testBit_xor]
    rw [← xsw]
    congr 1
    cases x.testBit (127 - i) <;> cases y.testBit (127 - i) <;> simp
theorem oN_mx (x h : Nat) : ∀ i, oN x (mxN h) i = mxN (oN x h i)
  | 0 => mx_zero.symm
  | i + 1 => by
    simp only [oN, oN_mx x h i, vN_mx, mx_xor]
    congr 1
    split
    · rfl
    · exact mx_zero.symm
theorem oN_vN (x h i : Nat) : ∀ j, oN x (vN h j) i = vN (oN x h i) j
  | 0 => rfl
  | j + 1 => by simp only [vN, oN_mx, oN_vN x h i j]
theorem oN_zr (x : Nat) : ∀ i, oN x 0 i = 0
  | 0 => rfl
  | i + 1 => by simp [oN, oN_zr x i, vN_zero]
theorem oN_zl (h : Nat) : ∀ i, oN 0 h i = 0
  | 0 => rfl
  | i + 1 => by simp [oN, oN_zl h i]
theorem oN_oN (x y h i : Nat) : ∀ j, oN x (oN y h j) i = oN y (oN x h i) j
  | 0 => by simp [oN, oN_zr]
  | j + 1 => by
    simp only [oN, oN_r, oN_oN x y h i j]
    congr 1
    split
    · exact oN_vN x h i j
    · exact oN_zr x i
theorem one_bit (k : Nat) : one_.testBit k = decide (127 = k) := by rw [one_eq]; exact Nat.testBit_two_pow
theorem oN_one (h : Nat) : ∀ i, oN one_ h (i + 1) = h
  | 0 => by simp [oN, one_bit, vN]
  | i + 1 => by
    rw [oN, oN_one h i, one_bit, if_neg (by simp; omega), Nat.xor_zero]
theorem vN_one : ∀ i, i ≤ 127 → vN one_ i = 2 ^ (127 - i)
  | 0, _ => one_eq
  | i + 1, h => by
    simp only [vN]
    rw [vN_one i (by omega), show 127 - i = (127 - (i + 1)) + 1 by omega, Nat.pow_succ]
    unfold mxN
    rw [Nat.mul_div_cancel _ (by decide), if_neg (by omega), Nat.xor_zero]
theorem oN_bits (x : Nat) : ∀ i, i ≤ 128 → ∀ k, (oN x one_ i).testBit k = (decide (k ≤ 127 ∧ 127 - k < i) && x.testBit k)
  | 0, _, k => by simp [oN]
  | i + 1, h, k => by
    rw [oN, Nat.testBit_xor, oN_bits x i (by omega) k, vN_one i (by omega)]
    by_cases hk : k = 127 - i
    · subst hk
      have e1 : decide (127 - i ≤ 127 ∧ 127 - (127 - i) < i) = false := decide_eq_false (by omega)
      have e2 : decide (127 - i ≤ 127 ∧ 127 - (127 - i) < i + 1) = true := decide_eq_true (by omega)
      rw [e1, e2]
      cases x.testBit (127 - i) <;> simp
    · have e1 : decide (k ≤ 127 ∧ 127 - k < i) = decide (k ≤ 127 ∧ 127 - k < i + 1) := by
        apply decide_eq_decide.2
        omega
      rw [e1]
      have e2 : (if x.testBit (127 - i) = true then 2 ^ (127 - i) else 0).testBit k = false := by
        split
        · rw [Nat.testBit_two_pow]; exact decide_eq_false (fun e => hk e.symm)
        · exact Nat.zero_testBit k
      rw [e2, Bool.xor_false]
theorem tm_one_l (h : Nat) : tm one_ h = h := oN_one h 127
theorem tm_one_r {x : Nat} (hx : G128 x) : tm x one_ = x := by
  apply Nat.eq_of_testBit_eq
  intro k
  unfold tm
  rw [oN_bits x 128 (Nat.le_refl _) k]
  by_cases hk : k ≤ 127
  · rw [decide_eq_true ⟨hk, by omega⟩, Bool.true_and]
  · rw [decide_eq_false (fun h => hk h.1), Bool.false_and]
    rw [g128] at hx
    exact (Nat.testBit_lt_two_pow (Nat.lt_of_lt_of_le hx (Nat.pow_le_pow_right (by decide) (by omega)))).symm
theorem tm_ok {x h : Nat} (hh : G128 h) : G128 (tm x h) := oN_ok x hh 128
theorem tm_r (x a b : Nat) : tm x (a ^^^ b) = tm x a ^^^ tm x b := oN_r x a b 128
theorem tm_l (x y h : Nat) : tm (x ^^^ y) h = tm x h ^^^ tm y h := oN_l x y h 128
theorem tm_tm (x y h : Nat) : tm x (tm y h) = tm y (tm x h) := oN_oN x y h 128 128
theorem tm_zr (x : Nat) : tm x 0 = 0 := oN_zr x 128
theorem tm_zl (x : Nat) : tm 0 x = 0 := oN_zl x 128
theorem tm_comm {x h : Nat} (hx : G128 x) (hh : G128 h) : tm x h = tm h x := by
  have h1 : tm x (tm h one_) = tm h (tm x one_) := tm_tm x h one_
  rwa [tm_one_r hh, tm_one_r hx] at h1
theorem tm_assoc {x y z : Nat} (_hx : G128 x) (hy : G128 y) (hz : G128 z) : tm (tm x y) z = tm x (tm y z) := by
  rw [tm_comm (tm_ok hy) hz, tm_tm z x y, tm_comm hz hy]
/-- squared so often -/
def fr : Nat → Nat → Nat
  | 0, a => a
  | n + 1, a => tm (fr n a) (fr n a)
theorem fr_ok {a : Nat} (ha : G128 a) : ∀ n, G128 (fr n a)
  | 0 => ha
  | n + 1 => tm_ok (fr_ok ha n)
theorem sq_xor {a b : Nat} (ha : G128 a) (hb : G128 b) : tm (a ^^^ b) (a ^^^ b) = tm a a ^^^ tm b b := by
  rw [tm_l, tm_r, tm_r, tm_comm hb ha, Nat.xor_assoc, xclN]
theorem sq_tm {a b : Nat} (ha : G128 a) (hb : G128 b) : tm (tm a b) (tm a b) = tm (tm a a) (tm b b) := by
  rw [tm_assoc ha hb (tm_ok hb), tm_tm b a b, ← tm_assoc ha ha (tm_ok hb)]
theorem fr_xor {a b : Nat} (ha : G128 a) (hb : G128 b) : ∀ n, fr n (a ^^^ b) = fr n a ^^^ fr n b
  | 0 => rfl
  | n + 1 => by simp only [fr, fr_xor ha hb n]; exact sq_xor (fr_ok ha n) (fr_ok hb n)
theorem fr_tm {a b : Nat} (ha : G128 a) (hb : G128 b) : ∀ n, fr n (tm a b) = tm (fr n a) (fr n b)
  | 0 => rfl
  | n + 1 => by simp only [fr, fr_tm ha hb n]; exact sq_tm (fr_ok ha n) (fr_ok hb n)
theorem fr_one : ∀ n, fr n one_ = one_
  | 0 => rfl
  | n + 1 => by simp only [fr, fr_one n]; exact tm_one_l one_
theorem fr_zero : ∀ n, fr n 0 = 0
  | 0 => rfl
  | n + 1 => by simp only [fr, fr_zero n]; exact tm_zr 0
/-- the product, round by round -/
def tf (x : Nat) : Nat → Nat → Nat → Nat → Nat
  | 0, _, _, out => out
  | n + 1, i, h, out => tf x n (i + 1) (mxN h) (bif x.testBit (127 - i) then out ^^^ h else out)
theorem tf_oN (x h : Nat) : ∀ n i, tf x n i (vN h i) (oN x h i) = oN x h (i + n)
  | 0, i => rfl
  | n + 1, i => by
    rw [tf, show mxN (vN h i) = vN h (i + 1) from rfl]
    have e : (bif x.testBit (127 - i) then oN x h i ^^^ vN h i else oN x h i) = oN x h (i + 1) := by
      rw [oN]
      cases x.testBit (127 - i) <;> simp
    rw [e, tf_oN x h n (i + 1)]
    congr 1
    omega
def tq (x h : Nat) : Nat := tf x 128 0 h 0
theorem tq_tm (x h : Nat) : tq x h = tm x h := by have := tf_oN x h 128 0; simpa [tq, tm, vN, oN] using this
/-- x, and its squares -/
def sqs : List Nat := [
  85070591730234615865843651857942052864, 42535295865117307932921825928971026432, 10633823966279326983230456482242756608, 664613997892457936451903530140172288,
  2596148429267413814265248164610048, 39614081257132168796771975168, 9223372036854775808, 299076299051606071403356588563077529600,
  223320687885582936303096647119756328960, 181439622058466316765484364476618637312, 170808393606790959443136713929011494912, 170143779648512580402633737760820723712,
  170141183500083312998042844553285730304, 128935115591136839677961803087095005184, 26521923513571051041719120380595011584, 2713827814269182967778813927160283136,
  19892309668726792795704411864237637640, 299897182589127159334264933479155400801, 159959758286485747050506419494376347345, 60525571083703940089607738420903979245,
  209028883661647972087190873557067101568, 244050288576999060854378104821219929480, 237124357734750947154885079710004979137, 241433926662288477711420685110953489857,
  244676285958628288050097968055285260259, 207624115730074607518965360287154315741, 45542536947308703482228433553521892404, 196875341648970848998312455873843130148,
  268802494694071371274580153178105082024, 203098531765952221901263434944936830931, 89635207793561493853031727954670226635, 17635536657554160223891345761552251654,
  112489354486133924937594606953927062558, 103542367381657779604032134892329681779, 19099574584433948515609566233580374867, 62115640240044381482841550280024960971,
  50391228177221979819227125881791319300, 163695713725096451390993957098536584760, 41734415099232896947411929953982010711, 234562838271090350528670298339903111163,
  96139727577274542912306893714895809048, 28368503231412555867187261962821942245, 203416903988108335017923413065992258531, 214259016414980319051799350134543084407,
  73761869416664513792330957753545523659, 24632501774629228702992643922598158118, 113456367860289333607009297114367807630, 160653902476767024414754363815833781237,
  254556726520323479364746206855480305863, 4526227804035031471510524530990904287, 134786544889666418473682136460080270514, 291303763298723517696563179989188587186,
  139812049077265991715376779331566419600, 260696688444144022815847602138927665670, 332355165341978746073769615818200980028, 317717234933355194415885652434082185071,
  274610808979437739965964759769346097198, 28801240844297479428334315665000247021, 229841481223330373219039180653320414504, 140375587621047260250014972709801025785,
  45391486184925167126930174384492543006, 123384984270966172455561567439734926201, 321794773840327928520107016027662330812, 70861984667100364040012540112209736303,
  148340141898206687063724843373059155590, 221090557989910989731917926507314198846, 82107999243414323334944566005053956931, 54693193818181484431854231401205703879,
  114536429382317831486454820622538248701, 115564013791287421977695069983604732462, 228926611396314964875483011635444102383, 74321643873517566600337472819924213644,
  202229157046156339513618629722341687123, 157409786558764528257684997350612823395, 294563800109893142238943126137925063391, 260885161595022357435290198221328107578,
  251031254701039333738288871179620003195, 93335358315670370022835900135914926392, 37022851862275889642258560040094869845, 157396171043600723384219653110421305181,
  125152375311858254124736471056591340958, 204118166209598140060728681112589250131, 216285818026694108828300809445219224393, 244033976791019852612000492304906626208,
  124253523478711657314458879051421582746, 293616368445771820056566621625277032043, 186639441330219146939608000567819265044, 37660355283750314002486891758976393534,
  128624545538626592230258248048941663049, 46064705648526900308498297178837823146, 260036059617357365198688971228453385693, 291073779213099574970310706157201503772,
  310785363655102026426914113103925009399, 272506523232356647620379317271510663777, 226218601711134272319338586873534916345, 247103177204134515436166145119768316982,
  296059664219031399650613090778401687298, 177125429678148108093716318237016710788, 56547780582645960279259354298804941592, 83593973713936815885639057414611377989,
  226778970597582024864124484835733948113, 191022259757708288983048059641732530789, 36571037404758589115503605558346024163, 33873532655115029667423043523058474335,
  133442055764004579282253164311215922968, 269156978868230004550242805540229117255, 263077746039643153986979754687578242813, 167997739037989486942123477009247278,
  245359703656536202643261748345171078861, 319669061538528860558562957135884659632, 93889542977846094186452460275144478876, 110569990996931783534670918714759856375,
  227500060518238923954784790963950870243, 99606112796630066198039008929586982741, 174405506854454285586332880354897487229, 30197492982161167704480518383037698446,
  247147745240409908531404287514350405079, 71492541200904486072911206743184881241, 73015403472221726317851518097686579468, 216919812705488069028661448664747747067,
  209898397545949153745892400055909254160, 128865345721593477062749972881714209158, 220227872485849155213274304514117291316, 34003972662229264603835496269624822572,
  98297600919465554377191492341797370083, 71019247396963060562882697576803300823, 120474473878528672766517451866316838489, 50130884412459684338974012517024680228,
  85070591730234615865843651857942052864]
def chainB : List Nat → Bool
  | a :: b :: r => tq a a == b && chainB (b :: r)
  | _ => true
theorem chain_fr : ∀ (l : List Nat) (a n : Nat) (b : Nat), chainB (a :: l) = true → n = l.length → b = (a :: l).getLast (by simp) → ∀ x m, fr m x = a → fr (m + n) x = b
  | [], a, n, b, _, hn, hb, x, m, hx => by subst hn; subst hb; exact hx
  | c :: r, a, n, b, h, hn, hb, x, m, hx => by
    simp only [chainB, Bool.and_eq_true, beq_iff_eq] at h
    have h1 : fr (m + 1) x = c := by rw [fr, hx, ← tq_tm]; exact h.1
    subst hn
    have := chain_fr r c r.length b h.2 rfl (by rw [hb]; simp) x (m + 1) h1
    rw [List.length_cons, show m + (r.length + 1) = m + 1 + r.length by omega]
    exact this
def gen_ : Nat := 85070591730234615865843651857942052864
theorem gen_ok_ : G128 gen_ := by unfold G128 gen_; decide
theorem sqs_ok : chainB sqs = true := by decide +kernel
theorem sqs_form : ∃ l, sqs = gen_ :: l ∧ l.length = 128 ∧ (gen_ :: l).getLast (by simp) = gen_ := ⟨sqs.tail, by decide +kernel, by decide +kernel, by decide +kernel⟩
theorem fr_gen : fr 128 gen_ = gen_ := by
  obtain ⟨l, h1, h2, h3⟩ := sqs_form
  have h4 := sqs_ok
  rw [h1] at h4
  have := chain_fr l gen_ 128 gen_ h4 h2.symm h3.symm gen_ 0 rfl
  rwa [Nat.zero_add] at this
theorem tm_gen {h : Nat} : tm gen_ h = mxN h := by
  have hb : ∀ k, gen_.testBit k = decide (126 = k) := fun k => by rw [show gen_ = 2 ^ 126 by decide +kernel]; exact Nat.testBit_two_pow
  have : ∀ i, oN gen_ h (i + 2) = mxN h := by
    intro i
    induction i with
    | zero => simp [oN, hb, vN]
    | succ i ih =>
      rw [oN, ih, hb, if_neg (by simp; omega), Nat.xor_zero]
  exact this 126
theorem fr_vone : ∀ i, fr 128 (vN one_ i) = vN one_ i
  | 0 => fr_one 128
  | i + 1 => by
    rw [vN, ← tm_gen, fr_tm gen_ok_ (vN_ok one_ok i), fr_gen, fr_vone i]
theorem fr_oone (a : Nat) : ∀ i, fr 128 (oN a one_ i) = oN a one_ i
  | 0 => fr_zero 128
  | i + 1 => by
    rw [oN, fr_xor (oN_ok a one_ok i) (G128.ite (vN_ok one_ok i)), fr_oone a i]
    congr 1
    split
    · exact fr_vone i
    · exact fr_zero 128
set_option maxRecDepth 100000 in
theorem fr_all {a : Nat} (ha : G128 a) : fr 128 a = a := by
  have h := fr_oone a 128
  have e : oN a one_ 128 = a := tm_one_r ha
  rwa [e] at h
/-- the powers' products -/
def ep (a : Nat) : Nat → Nat
  | 0 => one_
  | n + 1 => tm (ep a n) (fr n a)
def fp (a : Nat) : Nat → Nat
  | 0 => one_
  | n + 1 => tm (fp a n) (fr (n + 1) a)
theorem ep_ok {a : Nat} (ha : G128 a) : ∀ n, G128 (ep a n)
  | 0 => one_ok
  | n + 1 => tm_ok (fr_ok ha n)
theorem fp_ok {a : Nat} (ha : G128 a) : ∀ n, G128 (fp a n)
  | 0 => one_ok
  | n + 1 => tm_ok (fr_ok ha (n + 1))
theorem ep_fp {a : Nat} (ha : G128 a) : ∀ n, ep a (n + 1) = tm a (fp a n)
  | 0 => by simp only [ep, fp, fr]; rw [tm_one_l, tm_one_r ha]
  | n + 1 => by rw [ep, ep_fp ha n, fp, tm_assoc ha (fp_ok ha n) (fr_ok ha (n + 1))]
theorem sq_ep {a : Nat} (ha : G128 a) : ∀ n, tm (ep a n) (ep a n) = fp a n
  | 0 => tm_one_l one_
  | n + 1 => by rw [ep, sq_tm (ep_ok ha n) (fr_ok ha n), sq_ep ha n, fp]; rfl
theorem ep_idem {a : Nat} (ha : G128 a) : tm (ep a 128) (ep a 128) = ep a 128 := by
  rw [sq_ep ha 128, ep_fp ha 127, fp, fr_all ha, tm_comm (fp_ok ha 127) ha]
theorem a_ep {a : Nat} (ha : G128 a) : ∀ n, tm a (ep a n) = fr n a
  | 0 => tm_one_r ha
  | n + 1 => by rw [ep, ← tm_assoc ha (ep_ok ha n) (fr_ok ha n), a_ep ha n]; rfl
/-- a linear map by its columns -/
def lap : List Nat → Nat → Nat → Nat
  | [], _, _ => 0
  | c :: r, j, y => (bif y.testBit j then c else 0) ^^^ lap r (j + 1) y
theorem lap_xor (a b : Nat) : ∀ (l : List Nat) (j : Nat), lap l j (a ^^^ b) = lap l j a ^^^ lap l j b
  | [], _ => by simp [lap]
  | c :: r, j => by
    simp only [lap, Nat.testBit_xor, lap_xor a b r]
    rw [xsw]
    congr 1
    cases a.testBit j <;> cases b.testBit j <;> simp
theorem lap_zero : ∀ (l : List Nat) (j : Nat), lap l j 0 = 0
  | [], _ => rfl
  | c :: r, j => by simp [lap, lap_zero r]
def cert : List Nat := [
  0, 6161591008139076202154902373133594561, 71430717218983613641036104277415506289, 87518597585245962833849474628053070758,
  72921817864677867521778898634038080609, 163309321578052146879237778733101511783, 126814247099887467207929949960147586332, 133487668004820722767044853458355047125,
  108887185710678174598840578861931466132, 72978216601350599296199603180564021825, 126976600203468727039316187211004055892, 49689517519420395515082114066310337331,
  12764899024296983899235621676887115841, 59792954277794326371429463258526948146, 275464514806027128612938827324864, 33882886127255646541338116557250298163,
  133385434108064708788808215410435911893, 153238470225796905537047657204766862374, 127777348636302309636952298273557535380, 58594334107495617071392172125656399538,
  5725366257701666555538562805218717057, 159324042485362592547018579093184240551, 149021274876537960721224429182834492454, 94333773739946854309780815578084996199,
  161752945482599484730126084874801441767, 115575792119390728221592460023876181333, 133436244703473040169882794575366898389, 34751610155981195849944733847405496627,
  100972845268357601278728964017462078439, 44935323831972008745566419208193456946, 132003651752985294974180122299820886164, 45594221442569777339127844318073854322,
  100983558286137050684044238585428660711, 140308235276559149970208740923126577813, 92325303522414418149753570460923091879, 26944628100264108509229864938392397555,
  81071795988965022717357904530596407232, 58275656592719279154056000246173111091, 51613027339492204128265575524803459891, 142140898696765075202304690604976981845,
  53639910565545342273528145980335791795, 4726979706490419237355323591502507968, 161542955870533464563010084267448332775, 65334779303751560239471195525024588352,
  122557457634345817322758110469731963540, 79569572988994598121356082874814992321, 9537274821874957483351388617584152641, 109427184872331881977228478262674814292,
  96504253903287235160744645914913229863, 35809052500294759256374056413191545715, 63089105448741488643398279942380763954, 84108490886122099842324906724524496768,
  161537358671016203777973217828391545831, 49921000058860506912943830473554996979, 113870918609522322281985099445019275925, 45994406431766860863727072382817147250,
  6116654749483988959971426010360459777, 88394181539591460295416373139500891046, 93226277353508642900164249188457535015, 123506241354959402090274531190302866772,
  72992884249465865451566362034747193217, 123492369307601207700488716387690115284, 67288019353279926038130604499846823936, 96617416833907240315124182200439430055,
  6161591008139076220601646446843146177, 87518597585245962796955986480633967526, 163309321578052146805450802438263305319, 133487668004820722619470900868678634197,
  72978216601350599591347508359916847681, 49689517519420396105377924425015989043, 59792954277794325190837842541115644722, 33882886127255648902521357992072905011,
  153238470225796900814681174335121648678, 58594334107495626516125137864946826930, 159324042485362573657552647614603385767, 94333773739946892088712678535246705767,
  115575792119390803779456185938199600469, 34751610155981346965672185676052334899, 44935323831971706514111515550899780402, 45594221442570381802037651632661207410,
  140308235276560358896028355552301283989, 26944628100266526360869094196741809907, 58275656592714443450777541729474286387, 142140898696755403795747773571579332437,
  4726979706471076424241489524707209152, 65334779303712874613243527391433990720, 79569572989071969373811419141996187585, 109427184872177139472317805728312423764,
  35809052500604244266195401481916326771, 84108490886741069861967596861974058880, 49921000057622566873658450198655872755, 45994406429290980785156311833018898802,
  88394181544543220452557894239097387942, 123506241345055881775991488991109872980, 123492369287794167071922631989304127700, 96617416873521321572256350997211405223,
  87518597506017800282691648887090017190, 133487668163277047647999576055766534869, 49689517202507746048320574050840187699, 33882886761080949016636058740424507699,
  58594332839845026287895736368243621554, 94333771204645691632253875541840295015, 34751615226583747878589791662865156403, 45594211301365579976202439659035564402,
  26944648382676130012539518143993095923, 142140858131936196492406925677076760405, 65334698174074460006561831602428846656, 109427022612900310258954414150302135636,
  84108166368187411435240813705953482624, 45993757392183663931702745520977746290, 123504943270841248069084356367027567956, 96614820725092054158442085749046795175,
  133492860460135582475628106552095754965, 33893271354798018671893119733082947891, 94354540392079830942767997527157175399, 45552672926497301355174195688401803634,
  142223934881672753734463413618344281941, 109593176112373424743067390032837178708, 46326064391129892899928697286047832434, 95950206727199596221990182218906622887,
  32564043359013102798989312672802603315, 42894216934927469609366581567841114482, 114910088095513088234682618273958557012, 85316382760920269238759725736663866279,
  64161864867486123575827494532326627698, 127851678626037577171681551665634892711, 42781086895802961305837899807692839847, 22349210433241643211303706255459310228]
theorem cert_ok : ((List.range 127).all fun k => lap cert 0 (tq (2 ^ k) (2 ^ k) ^^^ 2 ^ k) == 2 ^ k) = true := by decide +kernel
theorem cert_at {k : Nat} (hk : k < 127) : lap cert 0 (tm (2 ^ k) (2 ^ k) ^^^ 2 ^ k) = 2 ^ k := by
  have := List.all_eq_true.1 cert_ok k (List.mem_range.2 hk)
  rwa [beq_iff_eq, tq_tm] at this
theorem mod_step (a n : Nat) : a % 2 ^ (n + 1) = a % 2 ^ n ^^^ (if a.testBit n = true then 2 ^ n else 0) := by
  apply Nat.eq_of_testBit_eq
  intro k
  rw [Nat.testBit_mod_two_pow, Nat.testBit_xor, Nat.testBit_mod_two_pow]
  by_cases hk : k = n
  · subst hk
    rw [decide_eq_true (Nat.lt_succ_self _), decide_eq_false (Nat.lt_irrefl _)]
    cases a.testBit k <;> simp
  · have e1 : decide (k < n + 1) = decide (k < n) := decide_eq_decide.2 (by omega)
    have e2 : (if a.testBit n = true then 2 ^ n else 0).testBit k = false := by
      split
      · rw [Nat.testBit_two_pow]; exact decide_eq_false (fun e => hk e.symm)
      · exact Nat.zero_testBit k
    rw [e1, e2, Bool.xor_false]
theorem mod_ok (a : Nat) {n : Nat} (hn : n ≤ 128) : G128 (a % 2 ^ n) := by
  rw [g128]
  exact Nat.lt_of_lt_of_le (Nat.mod_lt _ (Nat.two_pow_pos n)) (Nat.pow_le_pow_right (by decide) hn)
theorem pow_ok_ {n : Nat} (hn : n < 128) : G128 (2 ^ n) := by
  rw [g128]
  exact Nat.pow_lt_pow_right (by decide) hn
/-- what the certificate says of every number -/
def cm (a : Nat) : Nat := lap cert 0 (tm a a ^^^ a)
theorem cm_xor {a b : Nat} (ha : G128 a) (hb : G128 b) : cm (a ^^^ b) = cm a ^^^ cm b := by
  unfold cm
  rw [sq_xor ha hb, xsw, lap_xor]
theorem cm_zero : cm 0 = 0 := by unfold cm; rw [tm_zr]; exact lap_zero _ _
theorem cm_mod (a : Nat) : ∀ n, n ≤ 127 → cm (a % 2 ^ n) = a % 2 ^ n
  | 0, _ => by rw [Nat.pow_zero, Nat.mod_one]; exact cm_zero
  | n + 1, h => by
    rw [mod_step, cm_xor (mod_ok a (by omega)) (G128.ite (pow_ok_ (by omega))), cm_mod a n (by omega)]
    congr 1
    split
    · exact cert_at (by omega)
    · exact cm_zero
theorem cm_all {a : Nat} (ha : G128 a) : cm a = a % 2 ^ 127 := by
  have h1 := mod_step a 127
  rw [g128] at ha
  rw [Nat.mod_eq_of_lt ha] at h1
  have h2 : cm (if a.testBit 127 = true then 2 ^ 127 else 0) = 0 := by
    split
    · unfold cm
      rw [← one_eq, tm_one_l, Nat.xor_self]
      exact lap_zero _ _
    · exact cm_zero
  conv => lhs; rw [h1]
  rw [cm_xor (mod_ok a (by decide)) (G128.ite (pow_ok_ (by decide))), h2, Nat.xor_zero, cm_mod a 127 (by decide)]
theorem idem_two {e : Nat} (he : G128 e) (h : tm e e = e) : e = 0 ∨ e = one_ := by
  have h1 : cm e = 0 := by unfold cm; rw [h, Nat.xor_self]; exact lap_zero _ _
  rw [cm_all he] at h1
  have h2 : (2 : Nat) ^ 127 = 170141183460469231731687303715884105728 := by decide +kernel
  rw [h2] at h1
  unfold G128 at he
  unfold one_
  omega
/-- no divisors of nought -/
theorem tm_nozero {a b : Nat} (ha : G128 a) (hb : G128 b) (h : tm a b = 0) : a = 0 ∨ b = 0 := by
  rcases idem_two (ep_ok ha 128) (ep_idem ha) with h0 | h1
  · left
    have h2 := a_ep ha 128
    rw [h0, tm_zr, fr_all ha] at h2
    exact h2.symm
  · right
    rw [ep_fp ha 127] at h1
    have h2 : tm (tm a (fp a 127)) b = b := by rw [h1]; exact tm_one_l b
    rw [tm_comm ha (fp_ok ha 127), tm_assoc (fp_ok ha 127) ha hb, h, tm_zr] at h2
    exact h2.symm
theorem tm_inj {a b h : Nat} (ha : G128 a) (hb : G128 b) (hh : G128 h) (h0 : h ≠ 0) (e : tm a h = tm b h) : a = b := by
  have h1 : tm (a ^^^ b) h = 0 := by rw [tm_l, e, Nat.xor_self]
  rcases tm_nozero (ha.xor hb) hh h1 with h2 | h2
  · have h3 : (a ^^^ b) ^^^ b = b := by rw [h2, Nat.zero_xor]
    rw [Nat.xor_assoc, Nat.xor_self, Nat.xor_zero] at h3
    exact h3
  · exact absurd h2 h0
attribute [irreducible] tm tq fr
end Go.Proofs.Ytieabfifaigjdaa
/- Blocks of sixteen bytes as numbers; the hash of layer 9 as a plain function on lists of bytes: it is a sum. Conditions: as each theorem states them. -/
namespace Go.Proofs.Ytieabfifaigjdaa
open Go.RowKit
/-- the number of a list of bytes, the highest first -/
def beF (n : Nat) : List Int → Nat
  | [] => n
  | x :: r => beF (256 * n + x.toNat) r
def beN (l : List Int) : Nat := beF 0 l
/-- the k lowest bytes of a number, the highest first -/
def byk : Nat → Nat → List Int
  | 0, _ => []
  | k + 1, n => byk k (n / 256) ++ [((n % 256 : Nat) : Int)]
theorem beF_append (l m : List Int) : ∀ n, beF n (l ++ m) = beF (beF n l) m := by
  induction l with
  | nil => intro n; rfl
  | cons x r ih => intro n; exact ih _
theorem beF_eq (l : List Int) : ∀ n, beF n l = n * 256 ^ l.length + beF 0 l := by
  induction l with
  | nil => intro n; simp [beF]
  | cons x r ih =>
    intro n
    rw [beF, beF, ih, ih (256 * 0 + x.toNat), List.length_cons, Nat.pow_succ, Nat.mul_zero, Nat.zero_add, Nat.add_mul]
    rw [Nat.mul_comm 256 n, Nat.mul_assoc, Nat.mul_comm 256 (256 ^ r.length), Nat.add_assoc]
theorem beN_append (l m : List Int) : beN (l ++ m) = beN l * 256 ^ m.length + beN m := by unfold beN; rw [beF_append, beF_eq]
theorem beN_snoc (l : List Int) (x : Int) : beN (l ++ [x]) = 256 * beN l + x.toNat := by unfold beN; rw [beF_append]; rfl
theorem beN_nil : beN [] = 0 := rfl
theorem byk_len : ∀ (k n : Nat), (byk k n).length = k
  | 0, _ => rfl
  | k + 1, n => by rw [byk, List.length_append, byk_len k]; rfl
theorem byk_byt : ∀ (k n : Nat), Byt (byk k n)
  | 0, _ => Byt.nil
  | k + 1, n => (byk_byt k _).append (fun x hx => by rw [List.mem_singleton] at hx; omega)
theorem beN_byk : ∀ (k n : Nat), beN (byk k n) = n % 256 ^ k
  | 0, n => by rw [Nat.pow_zero, Nat.mod_one]; rfl
  | k + 1, n => by
    rw [byk, beN_snoc, beN_byk k, Int.toNat_natCast, Nat.pow_succ, Nat.mul_comm (256 ^ k) 256, Nat.mod_mul]
    omega
theorem snoc_of {α : Type} (l : List α) {n : Nat} (h : l.length = n + 1) : ∃ (m : List α) (x : α), l = m ++ [x] ∧ m.length = n := by
  rcases List.eq_nil_or_concat l with h0 | ⟨m, x, h0⟩
  · subst h0; cases h
  · exact ⟨m, x, by simpa using h0, by subst h0; simpa using h⟩
theorem byk_beN : ∀ (k : Nat) (l : List Int), l.length = k → Byt l → byk k (beN l) = l
  | 0, l, h, _ => by rw [List.eq_nil_of_length_eq_zero h]; rfl
  | k + 1, l, h, hb => by
    obtain ⟨m, x, rfl, hm⟩ := snoc_of l h
    have hx := hb x (by simp)
    have hmb : Byt m := fun y hy => hb y (by simp [hy])
    rw [beN_snoc, byk, show (256 * beN m + x.toNat) / 256 = beN m by omega, show (256 * beN m + x.toNat) % 256 = x.toNat by omega, byk_beN k m hm hmb]
    congr 1
    rw [Int.toNat_of_nonneg hx.1]
theorem beN_lt : ∀ (k : Nat) (l : List Int), l.length = k → Byt l → beN l < 256 ^ k
  | 0, l, h, _ => by rw [List.eq_nil_of_length_eq_zero h]; decide
  | k + 1, l, h, hb => by
    obtain ⟨m, x, rfl, hm⟩ := snoc_of l h
    have hx := hb x (by simp)
    have := beN_lt k m hm (fun y hy => hb y (by simp [hy]))
    rw [beN_snoc, Nat.pow_succ]
    omega
theorem beN_inj {k : Nat} {l m : List Int} (hl : l.length = k) (hm : m.length = k) (hbl : Byt l) (hbm : Byt m) (h : beN l = beN m) : l = m := by
  rw [← byk_beN k l hl hbl, h, byk_beN k m hm hbm]
theorem byk_getD : ∀ (k n i : Nat), i < k → (byk k n).getD i 0 = ((n / 256 ^ (k - 1 - i) % 256 : Nat) : Int)
  | 0, _, _, h => absurd h (by omega)
  | k + 1, n, i, h => by
    rw [byk, List.getD_eq_getElem?_getD]
    rcases Nat.lt_or_ge i k with hi | hi
    · rw [List.getElem?_append_left (by rw [byk_len]; exact hi), ← List.getD_eq_getElem?_getD, byk_getD k _ i hi, Nat.div_div_eq_div_mul]
      rw [show k + 1 - 1 - i = (k - 1 - i) + 1 by omega, Nat.pow_succ, Nat.mul_comm]
    · have : i = k := by omega
      subst this
      rw [List.getElem?_append_right (by rw [byk_len]; exact Nat.le_refl _), byk_len, Nat.sub_self]
      rw [show i + 1 - 1 - i = 0 by omega, Nat.pow_zero, Nat.div_one]
      rfl
theorem xor_256 (a b : Nat) : (a ^^^ b) / 256 = a / 256 ^^^ b / 256 ∧ (a ^^^ b) % 256 = (a % 256 ^^^ b % 256) :=
  ⟨Nat.xor_div_two_pow (n := 8), Nat.xor_mod_two_pow (n := 8)⟩
theorem xb_cast {a b : Nat} (ha : a < 256) (hb : b < 256) : xb (a : Int) (b : Int) = ((a ^^^ b : Nat) : Int) := by
  rw [xb_nat ⟨by omega, by omega⟩ ⟨by omega, by omega⟩]; rfl
/-- bytes, added one by one -/
def xaL (l m : List Int) : List Int := l.zipWith xb m
theorem xaL_len {l m : List Int} (h : l.length = m.length) : (xaL l m).length = l.length := by unfold xaL; rw [List.length_zipWith, h, Nat.min_self]
theorem xaL_byt (l m : List Int) : Byt (xaL l m) := fun x hx => by
  unfold xaL at hx
  obtain ⟨i, hi, rfl⟩ := List.mem_iff_getElem.1 hx
  rw [List.getElem_zipWith]
  exact xb_u _ _
theorem byk_xor : ∀ (k a b : Nat), byk k (a ^^^ b) = xaL (byk k a) (byk k b)
  | 0, _, _ => rfl
  | k + 1, a, b => by
    unfold xaL
    rw [byk, byk, byk, (xor_256 a b).1, (xor_256 a b).2, byk_xor k, List.zipWith_append (by rw [byk_len, byk_len])]
    show xaL _ _ ++ _ = xaL _ _ ++ _
    congr 1
    show [_] = [_]
    rw [xb_cast (Nat.mod_lt _ (by decide)) (Nat.mod_lt _ (by decide))]
theorem pow256 (k : Nat) : 256 ^ k = 2 ^ (8 * k) := by rw [Nat.pow_mul]
theorem xor_lt256 {k a b : Nat} (ha : a < 256 ^ k) (hb : b < 256 ^ k) : a ^^^ b < 256 ^ k := by rw [pow256] at *; exact Nat.xor_lt_two_pow ha hb
theorem beN_xor {l m : List Int} (h : l.length = m.length) (hl : Byt l) (hm : Byt m) : beN (xaL l m) = beN l ^^^ beN m := by
  have h1 := byk_beN l.length l rfl hl
  have h2 := byk_beN l.length m h.symm hm
  have h3 := byk_xor l.length (beN l) (beN m)
  rw [h1, h2] at h3
  rw [← h3, beN_byk, Nat.mod_eq_of_lt]
  exact xor_lt256 (beN_lt _ l rfl hl) (beN_lt _ m h.symm hm)
/-- sixteen bytes -/
def b16 (n : Nat) : List Int := byk 16 n
theorem b16_len (n : Nat) : (b16 n).length = 16 := byk_len 16 n
theorem b16_byt (n : Nat) : Byt (b16 n) := byk_byt 16 n
theorem p16 : 256 ^ 16 = 340282366920938463463374607431768211456 := by decide +kernel
theorem beN_b16 {n : Nat} (h : G128 n) : beN (b16 n) = n := by unfold b16; rw [beN_byk]; unfold G128 at h; rw [p16]; exact Nat.mod_eq_of_lt h
theorem b16_beN {l : List Int} (h : l.length = 16) (hb : Byt l) : b16 (beN l) = l := byk_beN 16 l h hb
theorem beN_ok {l : List Int} (h : l.length = 16) (hb : Byt l) : G128 (beN l) := by have := beN_lt 16 l h hb; rw [p16] at this; exact this
theorem b16_xor (a b : Nat) : b16 (a ^^^ b) = xaL (b16 a) (b16 b) := byk_xor 16 a b
theorem b16_inj {a b : Nat} (ha : G128 a) (hb : G128 b) (h : b16 a = b16 b) : a = b := by rw [← beN_b16 ha, h, beN_b16 hb]
/-- noughts behind -/
def pad16 (l : List Int) : List Int := l ++ List.replicate (16 - l.length) 0
theorem pad16_len {l : List Int} (h : l.length ≤ 16) : (pad16 l).length = 16 := by unfold pad16; simp; omega
theorem pad16_byt {l : List Int} (h : Byt l) : Byt (pad16 l) := h.append fun x hx => by have := (List.mem_replicate.1 hx).2; omega
/-- the k-th piece of sixteen bytes -/
def pc (b : List Int) (k : Nat) : List Int := pad16 ((b.drop (16 * k)).take 16)
theorem pc_len (b : List Int) (k : Nat) : (pc b k).length = 16 := pad16_len (by rw [List.length_take]; omega)
theorem pc_byt {b : List Int} (h : Byt b) (k : Nat) : Byt (pc b k) := pad16_byt ((h.drop _).take _)
theorem pc_getD (b : List Int) (k : Nat) {i : Nat} (hi : i < 16) : (pc b k).getD i 0 = b.getD (16 * k + i) 0 := by
  unfold pc pad16
  simp only [List.getD_eq_getElem?_getD]
  rcases Nat.lt_or_ge i ((b.drop (16 * k)).take 16).length with h | h
  · rw [List.getElem?_append_left h, List.getElem?_take, if_pos hi, List.getElem?_drop]
  · rw [List.getElem?_append_right h, List.getElem?_replicate]
    rw [List.length_take, List.length_drop] at h
    rw [List.getElem?_eq_none (l := b) (by omega)]
    split <;> rfl
theorem ext16' {s t : List Int} (hs : s.length = 16) (ht : t.length = 16) (h : ∀ i, i < 16 → s.getD i 0 = t.getD i 0) : s = t := by
  apply List.ext_getElem (by omega)
  intro i h1 h2
  have := h i (by omega)
  simpa [List.getD_eq_getElem?_getD, List.getElem?_eq_getElem h1, List.getElem?_eq_getElem h2] using this
theorem xaL_getD {l m : List Int} (h : l.length = m.length) (i : Nat) : (xaL l m).getD i 0 = xb (l.getD i 0) (m.getD i 0) := by
  unfold xaL
  rcases Nat.lt_or_ge i l.length with hi | hi
  · simp only [List.getD_eq_getElem?_getD]
    rw [List.getElem?_eq_getElem (by rw [List.length_zipWith]; omega), List.getElem_zipWith, List.getElem?_eq_getElem hi, List.getElem?_eq_getElem (by omega)]
    rfl
  · simp only [List.getD_eq_getElem?_getD]
    rw [List.getElem?_eq_none (by rw [List.length_zipWith]; omega), List.getElem?_eq_none hi, List.getElem?_eq_none (by omega)]
    rfl
theorem pc_xor {a b : List Int} (h : a.length = b.length) (k : Nat) : pc (xaL a b) k = xaL (pc a k) (pc b k) := by
  refine ext16' (pc_len _ _) (by rw [xaL_len (by rw [pc_len, pc_len]), pc_len]) fun i hi => ?_
  rw [pc_getD _ _ hi, xaL_getD h, xaL_getD (by rw [pc_len, pc_len]), pc_getD _ _ hi, pc_getD _ _ hi]
/-- the hash behind k pieces -/
def ghK (h : Nat) (b : List Int) : Nat → Nat
  | 0 => 0
  | k + 1 => tm (ghK h b k ^^^ beN (pc b k)) h
def nBlk (n : Nat) : Nat := (n + 15) / 16
def hashL (h b : List Int) : List Int := b16 (ghK (beN h) b (nBlk b.length))
theorem ghK_ok {h : Nat} (hh : G128 h) (b : List Int) : ∀ k, G128 (ghK h b k)
  | 0 => G128.zero
  | _ + 1 => tm_ok hh
theorem ghK_xor {h : Nat} {a b : List Int} (hl : a.length = b.length) (ha : Byt a) (hb : Byt b) : ∀ k, ghK h (xaL a b) k = ghK h a k ^^^ ghK h b k
  | 0 => by simp [ghK]
  | k + 1 => by
    rw [ghK, ghK_xor hl ha hb k, pc_xor hl, beN_xor (by rw [pc_len, pc_len]) (pc_byt ha k) (pc_byt hb k), xsw, tm_l]
    rfl
theorem hashL_len (h b : List Int) : (hashL h b).length = 16 := b16_len _
theorem hashL_byt (h b : List Int) : Byt (hashL h b) := b16_byt _
/-- the hash is a sum -/
theorem hashL_xor {h a b : List Int} (hl : a.length = b.length) (ha : Byt a) (hb : Byt b) : hashL h (xaL a b) = xaL (hashL h a) (hashL h b) := by
  unfold hashL
  rw [xaL_len hl, ghK_xor hl ha hb, b16_xor, hl]
/-- the hash tells two texts of one length apart that differ in one piece alone -/
theorem ghK_apart {h : Nat} (hh : G128 h) (h0 : h ≠ 0) {a b : List Int} (ha : Byt a) (hb : Byt b) {j : Nat} (hs : ∀ k, k ≠ j → pc a k = pc b k) (hd : pc a j ≠ pc b j) : ∀ k, (k ≤ j → ghK h a k = ghK h b k) ∧ (j < k → ghK h a k ≠ ghK h b k)
  | 0 => ⟨fun _ => rfl, fun h => absurd h (by omega)⟩
  | k + 1 => by
    obtain ⟨i1, i2⟩ := ghK_apart hh h0 ha hb hs hd k
    have ga := ghK_ok hh a k
    have gb := ghK_ok hh b k
    have pa := beN_ok (pc_len a k) (pc_byt ha k)
    have pb := beN_ok (pc_len b k) (pc_byt hb k)
    refine ⟨fun hk => ?_, fun hk e => ?_⟩
    · rw [ghK, ghK, i1 (by omega), hs k (by omega)]
    · rw [ghK, ghK] at e
      have e2 := tm_inj (ga.xor pa) (gb.xor pb) hh h0 e
      rcases Nat.lt_or_ge j k with hjk | hjk
      · rw [hs k (by omega)] at e2
        have e3 := congrArg (· ^^^ beN (pc b k)) e2
        simp only [Nat.xor_assoc, Nat.xor_self, Nat.xor_zero] at e3
        exact i2 hjk e3
      · have : k = j := by omega
        subst this
        rw [i1 (Nat.le_refl _)] at e2
        have e3 := congrArg (ghK h b k ^^^ ·) e2
        simp only [xclN] at e3
        exact hd (beN_inj (pc_len a k) (pc_len b k) (pc_byt ha k) (pc_byt hb k) e3)
theorem hashL_apart {h a b : List Int} (hl : h.length = 16) (hh : Byt h) (h0 : beN h ≠ 0) (hab : a.length = b.length) (ha : Byt a) (hb : Byt b) {j : Nat} (hj : j < nBlk a.length) (hs : ∀ k, k ≠ j → pc a k = pc b k) (hd : pc a j ≠ pc b j) : hashL h a ≠ hashL h b := fun e => by
  unfold hashL at e
  have hg := beN_ok hl hh
  have e2 := b16_inj (ghK_ok hg a _) (ghK_ok hg b _) e
  rw [← hab] at e2
  exact (ghK_apart hg h0 ha hb hs hd (nBlk a.length)).2 hj e2
attribute [irreducible] byk b16 beN ghK
end Go.Proofs.Ytieabfifaigjdaa
/- Sealing and opening of layer 9 as plain functions on lists of bytes; what was sealed is opened as it was, and nothing that differs from it in one byte. Conditions: as each theorem states them. -/
namespace Go.Proofs.Ytieabfifaigjdaa
/-- a nonce's i-th block -/
def ctrL (key nonce : List Int) (i : Nat) : List Int := aesL key (nonce ++ byk 4 i)
theorem ctr_in {nonce : List Int} (hn : nonce.length = 12) (hb : Byt nonce) (i : Nat) : Blk16 (nonce ++ byk 4 i) :=
  ⟨by rw [List.length_append, hn, byk_len], hb.append (byk_byt _ _)⟩
theorem ctrL_ok {key nonce : List Int} (hk : Blk16 key) (hn : nonce.length = 12) (hb : Byt nonce) (i : Nat) : Blk16 (ctrL key nonce i) := aesL_ok hk (ctr_in hn hb i)
/-- a text, turned -/
def turnL (key nonce b : List Int) : List Int := (List.range b.length).map fun k => xb (b.getD k 0) ((ctrL key nonce (2 + k / 16)).getD (k % 16) 0)
theorem turnL_len (key nonce b : List Int) : (turnL key nonce b).length = b.length := by simp [turnL]
theorem turnL_getD (key nonce b : List Int) {k : Nat} (hk : k < b.length) : (turnL key nonce b).getD k 0 = xb (b.getD k 0) ((ctrL key nonce (2 + k / 16)).getD (k % 16) 0) := by
  unfold turnL
  rw [getD_el (by simpa using hk), List.getElem_map, List.getElem_range]
theorem byt_of {s : List Int} (h : ∀ i, i < s.length → B8 (s.getD i 0)) : Byt s := by
  intro x hx
  obtain ⟨i, hi, rfl⟩ := List.mem_iff_getElem.1 hx
  have := h i hi
  rwa [getD_el hi] at this
theorem ext_getD {s t : List Int} (hl : s.length = t.length) (h : ∀ i, i < s.length → s.getD i 0 = t.getD i 0) : s = t := by
  apply List.ext_getElem hl
  intro i h1 h2
  have := h i h1
  rwa [getD_el h1, getD_el h2] at this
theorem turnL_byt (key nonce b : List Int) : Byt (turnL key nonce b) := byt_of fun i hi => by
  rw [turnL_len] at hi
  rw [turnL_getD key nonce b hi]
  exact xb_u _ _
theorem turnL_turnL {key nonce b : List Int} (hk : Blk16 key) (hn : nonce.length = 12) (hnb : Byt nonce) (hb : Byt b) : turnL key nonce (turnL key nonce b) = b := by
  refine ext_getD (by rw [turnL_len, turnL_len]) fun i hi => ?_
  rw [turnL_len] at hi
  rw [turnL_getD _ _ _ hi]
  rw [turnL_len] at hi
  rw [turnL_getD _ _ _ hi]
  exact xb_cancel (hb.getD i) ((ctrL_ok hk hn hnb _).2.getD _)
/-- with noughts up to a multiple of sixteen -/
def whL (l : List Int) : List Int := l ++ List.replicate ((16 - l.length % 16) % 16) 0
theorem whL_byt {l : List Int} (h : Byt l) : Byt (whL l) := h.append fun x hx => by have := (List.mem_replicate.1 hx).2; omega
def fllL (aad text : List Int) : List Int := whL aad ++ whL text ++ (byk 8 (8 * aad.length) ++ byk 8 (8 * text.length))
theorem fllL_byt {aad text : List Int} (ha : Byt aad) (ht : Byt text) : Byt (fllL aad text) := ((whL_byt ha).append (whL_byt ht)).append ((byk_byt _ _).append (byk_byt _ _))
def z16 : List Int := List.replicate 16 0
theorem z16_ok : Blk16 z16 := ⟨by decide, fun x hx => by have := (List.mem_replicate.1 hx).2; omega⟩
def tagL (key nonce aad text : List Int) : List Int := xaL (hashL (aesL key z16) (fllL aad text)) (ctrL key nonce 1)
theorem tagL_len {key nonce : List Int} (hk : Blk16 key) (hn : nonce.length = 12) (hnb : Byt nonce) (aad text : List Int) : (tagL key nonce aad text).length = 16 := by
  unfold tagL
  rw [xaL_len (by rw [hashL_len, (ctrL_ok hk hn hnb 1).1]), hashL_len]
theorem tagL_byt (key nonce aad text : List Int) : Byt (tagL key nonce aad text) := xaL_byt _ _
def gsealL (key nonce aad plain : List Int) : List Int := turnL key nonce plain ++ tagL key nonce aad (turnL key nonce plain)
def gopenL (key nonce aad sealed : List Int) : Option (List Int) :=
  if sealed.length < 16 then none else if tagL key nonce aad (sealed.take (sealed.length - 16)) = sealed.drop (sealed.length - 16) then some (turnL key nonce (sealed.take (sealed.length - 16))) else none
theorem gsealL_byt (key nonce aad plain : List Int) : Byt (gsealL key nonce aad plain) := (turnL_byt _ _ _).append (tagL_byt _ _ _ _)
section
variable {key nonce aad text : List Int}
theorem gsealL_len (hk : Blk16 key) (hn : nonce.length = 12) (hnb : Byt nonce) : (gsealL key nonce aad text).length = text.length + 16 := by
  unfold gsealL; rw [List.length_append, turnL_len, tagL_len hk hn hnb]
theorem gopen_at (key nonce aad : List Int) {t g : List Int} (hg : g.length = 16) : gopenL key nonce aad (t ++ g) = if tagL key nonce aad t = g then some (turnL key nonce t) else none := by
  unfold gopenL
  rw [if_neg (by rw [List.length_append]; omega), List.length_append, hg, Nat.add_sub_cancel, List.take_left, List.drop_left]
theorem gback (hk : Blk16 key) (hn : nonce.length = 12) (hnb : Byt nonce) (ht : Byt text) : gopenL key nonce aad (gsealL key nonce aad text) = some text := by
  unfold gsealL
  rw [gopen_at _ _ _ (tagL_len hk hn hnb _ _), if_pos rfl, turnL_turnL hk hn hnb ht]
end
theorem pc_same {a b : List Int} {p : Nat} (h : ∀ i, i ≠ p → a.getD i 0 = b.getD i 0) {k : Nat} (hk : k ≠ p / 16) : pc a k = pc b k := by
  refine ext16' (pc_len _ _) (pc_len _ _) fun i hi => ?_
  rw [pc_getD _ _ hi, pc_getD _ _ hi]
  exact h _ (by omega)
theorem pc_diff {a b : List Int} {p : Nat} (h : a.getD p 0 ≠ b.getD p 0) : pc a (p / 16) ≠ pc b (p / 16) := fun e => by
  have e2 := congrArg (fun l => l.getD (p % 16) 0) e
  simp only [pc_getD _ _ (Nat.mod_lt p (show 0 < 16 by decide))] at e2
  rw [show 16 * (p / 16) + p % 16 = p by omega] at e2
  exact h e2
/-- texts that differ in one byte alone have other tags -/
theorem tagL_apart {key nonce aad text aad' text' : List Int} (hk : Blk16 key) (hn : nonce.length = 12) (hnb : Byt nonce) (h0 : aesL key z16 ≠ z16) (ha : Byt aad) (ht : Byt text) (ha' : Byt aad') (ht' : Byt text')
    {p : Nat} (hl : (fllL aad text).length = (fllL aad' text').length) (hp : p < (fllL aad text).length) (hs : ∀ i, i ≠ p → (fllL aad text).getD i 0 = (fllL aad' text').getD i 0) (hd : (fllL aad text).getD p 0 ≠ (fllL aad' text').getD p 0) :
    tagL key nonce aad text ≠ tagL key nonce aad' text' := fun e => by
  have hz := aesL_ok hk z16_ok
  have hne : beN (aesL key z16) ≠ 0 := fun h => h0 (beN_inj hz.1 z16_ok.1 hz.2 z16_ok.2 (by rw [h]; decide +kernel))
  have hh := hashL_apart hz.1 hz.2 hne hl (fllL_byt ha ht) (fllL_byt ha' ht') (j := p / 16) (by unfold nBlk; omega) (fun k hk => pc_same hs hk) (pc_diff hd)
  unfold tagL at e
  have hc := ctrL_ok hk hn hnb 1
  refine hh (ext16' (hashL_len _ _) (hashL_len _ _) fun i hi => ?_)
  have e2 := congrArg (fun l => l.getD i 0) e
  simp only [xaL_getD (show (hashL (aesL key z16) (fllL aad text)).length = (ctrL key nonce 1).length by rw [hashL_len, hc.1]), xaL_getD (show (hashL (aesL key z16) (fllL aad' text')).length = (ctrL key nonce 1).length by rw [hashL_len, hc.1])] at e2
  exact xb_inj ((hashL_byt _ _).getD i) ((hashL_byt _ _).getD i) (hc.2.getD i) e2
theorem set_getD (l : List Int) (p : Nat) (x : Int) : (∀ i, i ≠ p → (l.set p x).getD i 0 = l.getD i 0) ∧ (p < l.length → (l.set p x).getD p 0 = x) := by
  refine ⟨fun i hi => ?_, fun hp => ?_⟩
  · rw [getD_set', if_neg (fun h => hi h.1.symm)]
  · rw [getD_set', if_pos ⟨rfl, hp⟩]
theorem append_getD (a b : List Int) (i : Nat) : (a ++ b).getD i 0 = if i < a.length then a.getD i 0 else b.getD (i - a.length) 0 := by
  simp only [List.getD_eq_getElem?_getD]
  split
  · rw [List.getElem?_append_left (by assumption)]
  · rw [List.getElem?_append_right (by omega)]
theorem whL_set {l : List Int} {p : Nat} (x : Int) (hp : p < l.length) : whL (l.set p x) = (whL l).set p x := by
  unfold whL
  rw [List.set_append_left _ _ hp, List.length_set]
theorem whL_le (l : List Int) : l.length ≤ (whL l).length := by unfold whL; rw [List.length_append]; omega
theorem fll_setA {aad text : List Int} {p : Nat} (x : Int) (hp : p < aad.length) : fllL (aad.set p x) text = (fllL aad text).set p x := by
  unfold fllL
  have := whL_le aad
  rw [whL_set x hp, List.length_set, List.append_assoc, List.append_assoc, List.set_append_left _ _ (by omega)]
theorem fll_setT {aad text : List Int} {p : Nat} (x : Int) (hp : p < text.length) : fllL aad (text.set p x) = (fllL aad text).set ((whL aad).length + p) x := by
  unfold fllL
  have := whL_le text
  rw [whL_set x hp, List.length_set, List.append_assoc, List.append_assoc, List.set_append_right _ _ (by omega), List.set_append_left _ _ (by omega), Nat.add_sub_cancel_left]
theorem fllL_lenA (aad text : List Int) : aad.length ≤ (fllL aad text).length ∧ ∀ p, p < text.length → (whL aad).length + p < (fllL aad text).length := by
  have h1 := whL_le aad
  have h2 := whL_le text
  unfold fllL
  simp only [List.length_append]
  exact ⟨by omega, fun p hp => by omega⟩
theorem bytE_set {l : List Int} (h : Byt l) (p : Nat) {x : Int} (hx : B8 x) : Byt (l.set p x) := fun y hy => by
  rcases List.mem_or_eq_of_mem_set hy with h1 | h1
  · exact h y h1
  · subst h1; exact hx
section
variable {key nonce aad text : List Int}
/-- a byte of what was sealed is changed -/
theorem gbad (hk : Blk16 key) (hn : nonce.length = 12) (hnb : Byt nonce) (h0 : aesL key z16 ≠ z16) (ha : Byt aad) (_ht : Byt text) {p : Nat} (hp : p < text.length + 16) {x : Int} (hx : B8 x) (hne : x ≠ (gsealL key nonce aad text).getD p 0) :
    gopenL key nonce aad ((gsealL key nonce aad text).set p x) = none := by
  unfold gsealL at *
  have hl := turnL_len key nonce text
  have hb := turnL_byt key nonce text
  generalize turnL key nonce text = t at *
  have hg := tagL_len hk hn hnb aad t
  rw [append_getD] at hne
  rcases Nat.lt_or_ge p t.length with h1 | h1
  · rw [if_pos h1] at hne
    rw [List.set_append_left _ _ h1, gopen_at _ _ _ hg, if_neg]
    have hs := fll_setT (aad := aad) x h1
    have hlt := (fllL_lenA aad t).2 p h1
    refine Ne.symm (tagL_apart hk hn hnb h0 ha hb ha (bytE_set hb p hx) (p := (whL aad).length + p) (by rw [hs, List.length_set]) hlt (fun i hi => ?_) ?_)
    · rw [hs]; exact ((set_getD _ _ x).1 i hi).symm
    · rw [hs, (set_getD _ _ x).2 hlt]
      intro e
      apply hne
      rw [← e]
      unfold fllL
      rw [List.append_assoc, append_getD, if_neg (by omega), Nat.add_sub_cancel_left, append_getD, if_pos (Nat.lt_of_lt_of_le h1 (whL_le t))]
      unfold whL
      rw [append_getD, if_pos h1]
  · rw [if_neg (by omega)] at hne
    rw [List.set_append_right _ _ h1, gopen_at _ _ _ (by rw [List.length_set]; exact hg), if_neg]
    intro e
    apply hne
    rw [e, (set_getD _ _ x).2 (by rw [hg]; omega)]
/-- a byte of the aad is changed -/
theorem gother (hk : Blk16 key) (hn : nonce.length = 12) (hnb : Byt nonce) (h0 : aesL key z16 ≠ z16) (ha : Byt aad) (_ht : Byt text) {p : Nat} (hp : p < aad.length) {x : Int} (hx : B8 x) (hne : x ≠ aad.getD p 0) :
    gopenL key nonce (aad.set p x) (gsealL key nonce aad text) = none := by
  unfold gsealL at *
  have hb := turnL_byt key nonce text
  generalize turnL key nonce text = t at *
  rw [gopen_at _ _ _ (tagL_len hk hn hnb aad t), if_neg]
  have hs := fll_setA (text := t) x hp
  have hlt : p < (fllL aad t).length := Nat.lt_of_lt_of_le hp (fllL_lenA aad t).1
  refine Ne.symm (tagL_apart hk hn hnb h0 ha hb (bytE_set ha p hx) hb (p := p) (by rw [hs, List.length_set]) hlt (fun i hi => ?_) ?_)
  · rw [hs]; exact ((set_getD _ _ x).1 i hi).symm
  · rw [hs, (set_getD _ _ x).2 hlt]
    intro e
    apply hne
    rw [← e]
    unfold fllL
    rw [List.append_assoc, append_getD, if_pos (Nat.lt_of_lt_of_le hp (whL_le aad))]
    unfold whL
    rw [append_getD, if_pos hp]
end
end Go.Proofs.Ytieabfifaigjdaa
/- Contracts of gcm: of. Conditions: as each theorem states them. -/
namespace Go.Proofs.Ytieabfifaigjdaa
open Go.RowKit
/-- a block of layer 9 as its two halves -/
def hl (n : Nat) : List Int := [((n / 18446744073709551616 : Nat) : Int), ((n % 18446744073709551616 : Nat) : Int)]
theorem two64 : (2 : Nat) ^ 64 = 18446744073709551616 := by decide
theorem beN_take (xs : List Int) {i : Nat} (h : i < xs.length) : beN (xs.take (i + 1)) = 256 * beN (xs.take i) + (xs.getD i 0).toNat := by
  rw [take_snoc_getD h, beN_snoc]
theorem shl_or {a : Nat} {x : Int} (ha : a < 72057594037927936) (h0 : 0 ≤ x) (h1 : x < 256) : bits .or .u64 (IntKind.u64.wrap ((a : Int) * 256)) x = ((256 * a + x.toNat : Nat) : Int) := by
  rw [wrapu64, Int.emod_eq_of_lt (by omega) (by omega), bits_or_u64' _ _ (by omega) (by omega) h0 (by omega)]
  have e : ((a : Int) * 256).toNat = 256 * a := by omega
  have hb : x.toNat < 2 ^ 8 := by omega
  rw [e]
  have := Nat.two_pow_add_eq_or_of_lt hb a
  rw [show (2 : Nat) ^ 8 = 256 by decide] at this
  rw [this]
theorem sizeBl : (Try.prog.info? 109).map (·.size) = some 2 := by kernel_rfl
set_option maxRecDepth 100000 in
set_option maxHeartbeats 4000000 in
theorem gof_any (A : Option Addr) (c : Nat) (xs : List Int) (w : World) (hx : Blk16 xs) (hr : Rd w.heap.size .u8 w A xs) :
    Calls Try.prog 71 #[.slice A 16 c] w (RetV (.agg (cellsL .u64 (hl (beN xs)))) w) := by
  have HX := Lib.hid hx
  have HXL := Lib.hid hx.1
  obtain ⟨ad, rfl, had⟩ := hr.isSome (by rw [HXL.out]; decide)
  have HR := Lib.hid hr
  clear hx hr
  have hz : Hid (beN [] = 0) := Lib.hid beN_nil
  have HT := Lib.hid (fun i h => beN_take xs (i := i) h)
  have HT8 := Lib.hid (fun i h => beN_take (xs.drop 8) (i := i) h)
  go_enter Try.func71, Try.ntmps71
  have A0 : Hid (Arr ((w.alloc (.cells #[.int .u64 0, .int .u64 0] 109)).alloc (.cells #[.int .u64 0, .int .u64 0] 109)) w.heap.size 109 .u64 [0, 0]) := Lib.hid ((Arr.newAt (xs := [0, 0]) rfl rfl).alloc _)
  have A1 : Hid (Arr ((w.alloc (.cells #[.int .u64 0, .int .u64 0] 109)).alloc (.cells #[.int .u64 0, .int .u64 0] 109)) (w.heap.size + 1) 109 .u64 [((beN (xs.take 0) : Nat) : Int), ((beN ((xs.drop 8).take 0) : Nat) : Int)]) := Lib.hid (by rw [List.take_zero, List.take_zero, hz.out]; exact Arr.newAt (xs := [0, 0]) (by simp) rfl)
  have BB : Hid (Below w.heap.size w ((w.alloc (.cells #[.int .u64 0, .int .u64 0] 109)).alloc (.cells #[.int .u64 0, .int .u64 0] 109))) := Lib.hid (((Below.refl _ _).alloc (Nat.le_refl _) _).alloc (by simp) _)
  go_wp2_with fail
  go_loopw [5] (fun ii wr => ∃ k : Nat, k ≤ 8 ∧ ii = .int .i64 k ∧ Hid (Arr wr w.heap.size 109 .u64 [0, 0]) ∧ Hid (Arr wr (w.heap.size + 1) 109 .u64 [((beN (xs.take k) : Nat) : Int), ((beN ((xs.drop 8).take k) : Nat) : Int)]) ∧ Hid (Below w.heap.size w wr)) (fun ii _ => 8 - (intOf ii).toNat)
  case atStart => exact ⟨0, by omega, rfl, A0, A1, BB⟩
  case round =>
    clear A0 A1 BB
    obtain ⟨k, hk, rfl, HA0, HA1, HB⟩ := hrel
    by_cases hlt : k < 8
    · have hx0 := HX.out.2.getD k
      have hx8 := HX.out.2.getD (8 + k)
      have HK := Lib.hid (HT.out k (by rw [HXL.out]; omega))
      have HK8 := HT8.out k (by rw [List.length_drop, HXL.out]; omega)
      rw [show (xs.drop 8).getD k 0 = xs.getD (8 + k) 0 by simp [List.getD_eq_getElem?_getD, List.getElem?_drop]] at HK8
      have HK9 := Lib.hid HK8
      have ha := beN_lt k (xs.take k) (by rw [List.length_take, HXL.out]; omega) (HX.out.2.take _)
      have hb := beN_lt k ((xs.drop 8).take k) (by rw [List.length_take, List.length_drop, HXL.out]; omega) ((HX.out.2.drop _).take _)
      have h7 : 256 ^ k ≤ 256 ^ 7 := Nat.pow_le_pow_right (by decide) (by omega)
      have h77 : 256 ^ 7 = 72057594037927936 := by decide
      have ha7 : beN (xs.take k) < 72057594037927936 := by omega
      have hb7 : beN ((xs.drop 8).take k) < 72057594037927936 := by omega
      have HA7 := Lib.hid ha7
      have HB7 := Lib.hid hb7
      clear ha hb h7 h77 HK8 ha7 hb7
      generalize beN (xs.take k) = a at *
      generalize beN ((xs.drop 8).take k) = b at *
      have p1 : ∀ r : BW wr.heap.size wr, r.world.cell? ⟨w.heap.size + 1, 0, none⟩ = some (.int .u64 (a : Int)) := fun r => (HA1.out.belowAll r.below).cell (i := 0) (by simp)
      have p2 : ∀ r : BW wr.heap.size wr, r.world.cell? (ad.add k) = some (.int .u8 (xs.getD k 0)) := fun r => ((HR.out.below HB.out (Nat.le_refl _)).below r.below HB.out.size).at_ (by rw [HXL.out]; omega)
      have f1 := HA1.out.frozen 0
      have q1 : wr.cell? ⟨w.heap.size + 1, 0, none⟩ = some (.int .u64 (a : Int)) := p1 ⟨wr, Below.refl _ _⟩
      obtain ⟨x, hxx⟩ : ∃ x, xs.getD k 0 = x := ⟨_, rfl⟩
      obtain ⟨y, hyy⟩ : ∃ y, xs.getD (8 + k) 0 = y := ⟨_, rfl⟩
      rw [hxx] at hx0 HK p2
      rw [hyy] at hx8 HK9
      have HYY := Lib.hid hyy
      obtain ⟨hx00, hx01⟩ := hx0
      obtain ⟨hx80, hx81⟩ := hx8
      clear hxx hyy
      go_wp2_with fail
      refine wp_region_mixOB wr.heap.size [([0, 1, 2, 3, 4, 5, 6, 7, 8, 9], 10)] (by kernel_rfl) (by kernel_rfl) (by kernel_rfl) (by kernel_rfl) (by kernel_rfl) ?_
      try (rw [put_none])
      simp only [pickL, List.map_cons, List.map_nil, List.filterMap_cons, List.filterMap_nil, List.getElem?_cons_succ, List.getElem?_cons_zero]
      refine mixO_cons ?_
      repeat (show wpQuiet _ _ _ _ (_ :: _) _; go_big_quiet_step (fail))
      refine wpQuiet_nil ?_
      show wpList _ _ _ [_] _ _
      go_wp2_with fail
      refine MixO.last ?_
      refine mixO_nil ?_
      refine wpQuiet_nil ?_
      refine NoPanic.normal ?_
      rw [shl_or HA7.out hx00 hx01, ← HK.out]
      have HA3 := Lib.hid (Arr.drew (Arr.set HA1.out 0 ((beN (xs.take (k + 1)) : Nat) : Int)))
      have HB3 := Lib.hid ((HB.out.setCell (p := ⟨w.heap.size + 1, 0, none⟩) (by simp) (.int .u64 ((beN (xs.take (k + 1)) : Nat) : Int))).drew)
      have HA03 := Lib.hid (Arr.drew (HA0.out.far (p := ⟨w.heap.size + 1, 0, none⟩) (by simp) (.int .u64 ((beN (xs.take (k + 1)) : Nat) : Int))))
      generalize (wr.setCell ⟨w.heap.size + 1, 0, none⟩ (.int .u64 ((beN (xs.take (k + 1)) : Nat) : Int))).drew = w3 at *
      clear p1 p2 f1 q1 HK HA1 HA0
      have p1 : ∀ r : BW w3.heap.size w3, r.world.cell? ⟨w.heap.size + 1, 1, none⟩ = some (.int .u64 (b : Int)) := fun r => (HA3.out.belowAll r.below).cell (i := 1) (by simp)
      have p2 : ∀ r : BW w3.heap.size w3, r.world.cell? (ad.add (8 + k)) = some (.int .u8 y) := fun r => by
        have := ((HR.out.below HB3.out (Nat.le_refl _)).below r.below HB3.out.size).at_ (i := 8 + k) (by rw [HXL.out]; omega)
        rwa [HYY.out] at this
      have f1 := HA3.out.frozen 1
      have q1 : w3.cell? ⟨w.heap.size + 1, 1, none⟩ = some (.int .u64 (b : Int)) := p1 ⟨w3, Below.refl _ _⟩
      have e1 : (8 + (k : Int)).toNat = 8 + k := by omega
      go_wp2_with fail
      refine wp_region_mixOB w3.heap.size [([0, 1, 2, 3, 4, 5, 6, 7, 8, 9, 10], 11)] (by kernel_rfl) (by kernel_rfl) (by kernel_rfl) (by kernel_rfl) (by kernel_rfl) ?_
      try (rw [put_none])
      simp only [pickL, List.map_cons, List.map_nil, List.filterMap_cons, List.filterMap_nil, List.getElem?_cons_succ, List.getElem?_cons_zero]
      refine mixO_cons ?_
      repeat (show wpQuiet _ _ _ _ (_ :: _) _; go_big_quiet_step (fail))
      refine wpQuiet_nil ?_
      show wpList _ _ _ [_] _ _
      go_wp2_with fail
      refine MixO.last ?_
      refine mixO_nil ?_
      refine wpQuiet_nil ?_
      refine NoPanic.normal ?_
      rw [shl_or HB7.out hx80 hx81, ← HK9.out]
      have HA4 := Lib.hid (Arr.drew (Arr.set HA3.out 1 ((beN ((xs.drop 8).take (k + 1)) : Nat) : Int)))
      have HB4 := Lib.hid ((HB3.out.setCell (p := ⟨w.heap.size + 1, 1, none⟩) (by simp) (.int .u64 ((beN ((xs.drop 8).take (k + 1)) : Nat) : Int))).drew)
      have HA04 := Lib.hid (Arr.drew (HA03.out.far (p := ⟨w.heap.size + 1, 1, none⟩) (by simp) (.int .u64 ((beN ((xs.drop 8).take (k + 1)) : Nat) : Int))))
      clear p1 p2 f1 q1 e1 HK9 HA3 HB3 HA03
      go_wp2_with fail
      go_roundw
      case rel => exact ⟨k + 1, by omega, by go_num, HA04, HA4, HB4⟩
      case measure => simp [intOf]; omega
    · have HF : Hid ([((beN (xs.take k) : Nat) : Int), ((beN ((xs.drop 8).take k) : Nat) : Int)] = hl (beN xs)) := Lib.hid (by
        have hk8 : k = 8 := by omega
        have h1 : (xs.drop 8).take k = xs.drop 8 := List.take_of_length_le (by rw [List.length_drop, HXL.out]; omega)
        have h2 := beN_append (xs.take 8) (xs.drop 8)
        rw [List.take_append_drop] at h2
        have h3 : (xs.drop 8).length = 8 := by rw [List.length_drop, HXL.out]
        have h4 := beN_lt 8 (xs.drop 8) h3 (HX.out.2.drop _)
        rw [h3] at h2
        rw [show (256 : Nat) ^ 8 = 18446744073709551616 by decide] at h2 h4
        rw [h1, hk8]
        unfold hl
        rw [h2]
        rw [show (beN (xs.take 8) * 18446744073709551616 + beN (xs.drop 8)) / 18446744073709551616 = beN (xs.take 8) by omega, show (beN (xs.take 8) * 18446744073709551616 + beN (xs.drop 8)) % 18446744073709551616 = beN (xs.drop 8) by omega])
      have HA5 : Hid (Arr wr (w.heap.size + 1) 109 .u64 (hl (beN xs))) := Lib.hid (by rw [← HF.out]; exact HA1.out)
      have L1 := Lib.hid (blk_load (P := Try.prog) HA5.out Try.underlying109 rfl sizeBl)
      obtain ⟨w8, hs8, hz8, hg8⟩ := blk_storeAll (P := Try.prog) (ty := 109) (vs := iv .u64 (hl (beN xs))) HA0.out rfl (iv_one _ _) sizeBl
      have S8 := Lib.hid hs8
      have Z8 := Lib.hid hz8
      have B8 := Lib.hid (HB.out.trans (below_of_only hg8 (by omega) HB.out.size))
      clear hs8 hz8 hg8
      go_wp2_with (first
        | ((with_reducible (show wpList _ _ _ (⟨some 30, .load _ _, _, _, _, _⟩ :: _) _ _)); refine wpList_loadV (o := ⟨some 30, .load _ _, _, _, _, _⟩) rfl _ rfl rfl (L1.out) ?_)
        | ((with_reducible (show wpList _ _ _ (⟨none, .store 109 _ _, _, _, _, _⟩ :: _) _ _)); refine wpList_storeV (o := ⟨none, .store 109 _ _, _, _, _, _⟩) rfl _ _ rfl rfl rfl (S8.out) ?_))
      refine ret_row rfl rfl Z8.out Try.underlying109 rfl sizeBl rfl ⟨rfl, B8.out⟩
end Go.Proofs.Ytieabfifaigjdaa
/- Contract of gcm: block.times. Conditions: as each theorem states them. -/
namespace Go.Proofs.Ytieabfifaigjdaa
open Go.RowKit
def TF (w : World) (x v o : Nat) (wr : World) : Prop :=
  Arr wr w.heap.size 109 .u64 (hl x) ∧ Arr wr (w.heap.size + 1) 109 .u64 (hl v) ∧ Arr wr (w.heap.size + 1 + 1) 109 .u64 [0, 0] ∧ Arr wr (w.heap.size + 1 + 1 + 1) 109 .u64 (hl o) ∧ Below w.heap.size w wr
theorem hl_xor {a b : Nat} (ha : G128 a) (hb : G128 b) : hl (a ^^^ b) = [bits .xor .u64 ((a / 18446744073709551616 : Nat) : Int) ((b / 18446744073709551616 : Nat) : Int), bits .xor .u64 ((a % 18446744073709551616 : Nat) : Int) ((b % 18446744073709551616 : Nat) : Int)] := by
  unfold G128 at ha hb
  have h1 := Nat.xor_div_two_pow (n := 64) (a := a) (b := b)
  have h2 := Nat.xor_mod_two_pow (n := 64) (a := a) (b := b)
  rw [two64] at h1 h2
  unfold hl
  rw [bits_xor_u64' _ _ (by omega) (by omega) (by omega) (by omega), bits_xor_u64' _ _ (by omega) (by omega) (by omega) (by omega), h1, h2]
  rfl
theorem TF.sum {w wr : World} {x v o : Nat} (h : TF w x v o wr) (ho : G128 o) (hv : G128 v) :
    TF w x v (o ^^^ v) ((wr.setCell ⟨w.heap.size + 1 + 1 + 1, 0, none⟩ (.int .u64 (bits .xor .u64 ((o / 18446744073709551616 : Nat) : Int) ((v / 18446744073709551616 : Nat) : Int)))).setCell ⟨w.heap.size + 1 + 1 + 1, 1, none⟩ (.int .u64 (bits .xor .u64 ((o % 18446744073709551616 : Nat) : Int) ((v % 18446744073709551616 : Nat) : Int)))) :=
  ⟨(h.1.far (by simp <;> omega) _).far (by simp <;> omega) _, (h.2.1.far (by simp <;> omega) _).far (by simp <;> omega) _, (h.2.2.1.far (by simp <;> omega) _).far (by simp <;> omega) _, Arr.cast ((h.2.2.2.1.set 0 _).set 1 _) (by rw [hl_xor ho hv]; rfl), (h.2.2.2.2.setCell (by simp <;> omega) _).setCell (by simp <;> omega) _⟩
theorem half_hl (v : Nat) : [(((v / 18446744073709551616 : Nat) : Int) / 2), bits .or .u64 (((v % 18446744073709551616 : Nat) : Int) / 2) (IntKind.u64.wrap (((v / 18446744073709551616 : Nat) : Int) * 9223372036854775808))] = hl (v / 2) := by
  unfold hl
  rw [wrapu64]
  have e1 : (((v / 18446744073709551616 : Nat) : Int) * 9223372036854775808) % 18446744073709551616 = ((9223372036854775808 * ((v / 18446744073709551616) % 2) : Nat) : Int) := by omega
  rw [e1, bits_or_u64' _ _ (by omega) (by omega) (by omega) (by omega), Int.toNat_natCast]
  have e2 : (((v % 18446744073709551616 : Nat) : Int) / 2).toNat = v % 18446744073709551616 / 2 := by omega
  have hb : v % 18446744073709551616 / 2 < 2 ^ 63 := by rw [show (2 : Nat) ^ 63 = 9223372036854775808 by decide]; omega
  have h3 := Nat.two_pow_add_eq_or_of_lt hb ((v / 18446744073709551616) % 2)
  rw [show (2 : Nat) ^ 63 = 9223372036854775808 by decide] at h3
  rw [e2, Nat.or_comm, ← h3]
  congr 1
  · omega
  · congr 1
    omega
theorem TF.half {w wr : World} {x v o : Nat} (h : TF w x v o wr) :
    TF w x (v / 2) o ((wr.setCell ⟨w.heap.size + 1, 1, none⟩ (.int .u64 (bits .or .u64 (((v % 18446744073709551616 : Nat) : Int) / 2) (IntKind.u64.wrap (((v / 18446744073709551616 : Nat) : Int) * 9223372036854775808))))).setCell ⟨w.heap.size + 1, 0, none⟩ (.int .u64 (((v / 18446744073709551616 : Nat) : Int) / 2))) :=
  ⟨(h.1.far (by simp <;> omega) _).far (by simp <;> omega) _, Arr.cast ((h.2.1.set 1 _).set 0 _) (by rw [← half_hl]; rfl), (h.2.2.1.far (by simp <;> omega) _).far (by simp <;> omega) _, (h.2.2.2.1.far (by simp <;> omega) _).far (by simp <;> omega) _, (h.2.2.2.2.setCell (by simp <;> omega) _).setCell (by simp <;> omega) _⟩
theorem top_ok : G128 299076299051606071403356588563077529600 := by unfold G128; decide
theorem TF.top {w wr : World} {x v o : Nat} {t : Int} (h : TF w x v o wr) (hv : G128 v) (ht : t = ((v / 18446744073709551616 : Nat) : Int)) :
    TF w x (v ^^^ 299076299051606071403356588563077529600) o (wr.setCell ⟨w.heap.size + 1, 0, none⟩ (.int .u64 (bits .xor .u64 t 16212958658533785600))) :=
  ⟨h.1.far (by simp <;> omega) _, Arr.cast (h.2.1.set 0 _) (by
    rw [hl_xor hv top_ok, ht]
    show [_, _] = [_, _]
    congr 1
    congr 1
    have h0 : bits .xor .u64 ((v % 18446744073709551616 : Nat) : Int) ((299076299051606071403356588563077529600 % 18446744073709551616 : Nat) : Int) = ((v % 18446744073709551616 : Nat) : Int) := by
      rw [bits_xor_u64' _ _ (by omega) (by omega) (by omega) (by omega)]
      rw [show ((299076299051606071403356588563077529600 % 18446744073709551616 : Nat) : Int).toNat = 0 by decide, Nat.xor_zero, Int.toNat_natCast]
    exact h0.symm), h.2.2.1.far (by simp <;> omega) _, h.2.2.2.1.far (by simp <;> omega) _, h.2.2.2.2.setCell (by simp <;> omega) _⟩
theorem and1 {n : Nat} (h : n < 18446744073709551616) : (bits .and .u64 (n : Int) 1 != 0) = decide (n % 2 = 1) := by
  rw [bits_and_u64' _ _ (by omega) (by omega) (by decide) (by decide), Int.toNat_natCast, show (1 : Int).toNat = 1 from rfl, Nat.and_one_is_mod]
  rcases Nat.mod_two_eq_zero_or_one n with h | h <;> rw [h] <;> decide
theorem castdiv (a n : Nat) : ((a : Nat) : Int) / 2 ^ n = ((a / 2 ^ n : Nat) : Int) := by rw [Int.natCast_ediv, Int.natCast_pow]; rfl
theorem bit_hi {x k : Nat} (hx : G128 x) (hk : k < 64) : (bits .and .u64 (((x / 18446744073709551616 : Nat) : Int) / 2 ^ (63 - k % 64)) 1 != 0) = x.testBit (127 - k) := by
  unfold G128 at hx
  have hle : x / 18446744073709551616 / 2 ^ (63 - k % 64) ≤ x / 18446744073709551616 := Nat.div_le_self _ _
  rw [castdiv, and1 (by omega), Nat.testBit_eq_decide_div_mod_eq, Nat.div_div_eq_div_mul, ← two64, ← Nat.pow_add]
  rw [show 64 + (63 - k % 64) = 127 - k by omega]
theorem bit_lo {x k : Nat} (hk : 64 ≤ k) (hk2 : k < 128) : (bits .and .u64 (((x % 18446744073709551616 : Nat) : Int) / 2 ^ (63 - k % 64)) 1 != 0) = x.testBit (127 - k) := by
  have hle : x % 18446744073709551616 / 2 ^ (63 - k % 64) ≤ x % 18446744073709551616 := Nat.div_le_self _ _
  rw [castdiv, and1 (by omega), ← Nat.testBit_eq_decide_div_mod_eq, ← two64, show 63 - k % 64 = 127 - k by omega, Nat.testBit_mod_two_pow]
  rw [show decide (127 - k < 64) = true from decide_eq_true (by omega), Bool.true_and]
theorem bit_over {v : Nat} : (bits .and .u64 ((v % 18446744073709551616 : Nat) : Int) 1 != 0) = decide (v % 2 = 1) := by
  rw [and1 (Nat.mod_lt _ (by decide)), show v % 18446744073709551616 % 2 = v % 2 by omega]
set_option maxRecDepth 100000 in
set_option maxHeartbeats 4000000 in
theorem times_any (x h : Nat) (w : World) (hx : G128 x) (hh : G128 h) :
    Calls Try.prog 72 #[.agg (cellsL .u64 (hl x)), .agg (cellsL .u64 (hl h))] w (RetV (.agg (cellsL .u64 (hl (tm x h)))) w) := by
  have HX := Lib.hid hx
  have F0 : Hid (TF w x (vN h 0) (oN x h 0) ((((w.alloc (.cells (cellsL .u64 (hl x)) 109)).alloc (.cells (cellsL .u64 (hl h)) 109)).alloc (.cells #[.int .u64 0, .int .u64 0] 109)).alloc (.cells #[.int .u64 0, .int .u64 0] 109))) := Lib.hid
    ⟨(((Arr.newAt rfl rfl).alloc _).alloc _).alloc _, ((Arr.newAt (by simp) rfl).alloc _).alloc _, (Arr.newAt (xs := [0, 0]) (by simp) rfl).alloc _, Arr.cast (Arr.newAt (xs := [0, 0]) (by simp) rfl) (by simp [hl, oN]), ((((Below.refl _ _).alloc (Nat.le_refl _) _).alloc (by simp) _).alloc (by simp <;> omega) _).alloc (by simp <;> omega) _⟩
  go_enter Try.func72, Try.ntmps72
  go_wp2_with fail
  go_loopw [9] (fun ii wr => ∃ k : Nat, k ≤ 128 ∧ ii = .int .i64 k ∧ Hid (TF w x (vN h k) (oN x h k) wr)) (fun ii _ => 128 - (intOf ii).toNat)
  case atStart => exact ⟨0, by omega, rfl, F0⟩
  case round =>
    clear F0
    obtain ⟨k, hk, rfl, HF⟩ := hrel
    by_cases hlt : k < 128
    · obtain ⟨v, hv⟩ : ∃ v, vN h k = v := ⟨_, rfl⟩
      obtain ⟨o, ho⟩ : ∃ o, oN x h k = o := ⟨_, rfl⟩
      rw [hv, ho] at HF
      obtain ⟨xh, hxh⟩ : ∃ n : Nat, x / 18446744073709551616 = n := ⟨_, rfl⟩
      obtain ⟨xl, hxl⟩ : ∃ n : Nat, x % 18446744073709551616 = n := ⟨_, rfl⟩
      obtain ⟨vh, hvh⟩ : ∃ n : Nat, v / 18446744073709551616 = n := ⟨_, rfl⟩
      obtain ⟨vl, hvl⟩ : ∃ n : Nat, v % 18446744073709551616 = n := ⟨_, rfl⟩
      obtain ⟨oh, hoh⟩ : ∃ n : Nat, o / 18446744073709551616 = n := ⟨_, rfl⟩
      obtain ⟨ol, hol⟩ : ∃ n : Nat, o % 18446744073709551616 = n := ⟨_, rfl⟩
      have c1 : wr.cell? ⟨w.heap.size, 0, none⟩ = some (.int .u64 (xh : Int)) := by rw [← hxh]; exact HF.out.1.cell (i := 0) (by simp [hl])
      have c2 : wr.cell? ⟨w.heap.size, 1, none⟩ = some (.int .u64 (xl : Int)) := by rw [← hxl]; exact HF.out.1.cell (i := 1) (by simp [hl])
      have c3 : wr.cell? ⟨w.heap.size + 1, 0, none⟩ = some (.int .u64 (vh : Int)) := by rw [← hvh]; exact HF.out.2.1.cell (i := 0) (by simp [hl])
      have c4 : wr.cell? ⟨w.heap.size + 1, 1, none⟩ = some (.int .u64 (vl : Int)) := by rw [← hvl]; exact HF.out.2.1.cell (i := 1) (by simp [hl])
      have c5 : wr.cell? ⟨w.heap.size + 1 + 1 + 1, 0, none⟩ = some (.int .u64 (oh : Int)) := by rw [← hoh]; exact HF.out.2.2.2.1.cell (i := 0) (by simp [hl])
      have c6 : wr.cell? ⟨w.heap.size + 1 + 1 + 1, 1, none⟩ = some (.int .u64 (ol : Int)) := by rw [← hol]; exact HF.out.2.2.2.1.cell (i := 1) (by simp [hl])
      have f3 := HF.out.2.1.frozen 0
      have f4 := HF.out.2.1.frozen 1
      have f5 := HF.out.2.2.2.1.frozen 0
      have f6 := HF.out.2.2.2.1.frozen 1
      have HXH := Lib.hid hxh
      have HXL := Lib.hid hxl
      have HVH := Lib.hid hvh
      have HVL := Lib.hid hvl
      have HOH := Lib.hid hoh
      have HOL := Lib.hid hol
      have HOK : Hid (G128 o) := Lib.hid (by rw [← ho]; exact oN_ok x hh k)
      have HVK : Hid (G128 v) := Lib.hid (by rw [← hv]; exact vN_ok hh k)
      have HV1 : Hid (vN h (k + 1) = v / 2 ^^^ (if v % 2 = 1 then 299076299051606071403356588563077529600 else 0)) := Lib.hid (by rw [← hv]; rfl)
      have HO1 : Hid (oN x h (k + 1) = o ^^^ (if x.testBit (127 - k) = true then v else 0)) := Lib.hid (by rw [← ho, ← hv]; rfl)
      have HVH2 : Hid (G128 (v / 2)) := Lib.hid (by have := HVK.out; unfold G128 at *; omega)
      have b2 := bit_over (v := v)
      rw [hvl] at b2
      have b1 : if k < 64 then (bits .and .u64 ((xh : Int) / 2 ^ (63 - k % 64)) 1 != 0) = x.testBit (127 - k) else (bits .and .u64 ((xl : Int) / 2 ^ (63 - k % 64)) 1 != 0) = x.testBit (127 - k) := by
        split
        · rw [← hxh]; exact bit_hi HX.out (by assumption)
        · rw [← hxl]; exact bit_lo (by omega) hlt
      generalize hbb : x.testBit (127 - k) = bb at *
      generalize hov : decide (v % 2 = 1) = ov at *
      have HBB := Lib.hid hbb
      have HOV := Lib.hid hov
      clear hxh hxl hvh hvl hoh hol hv ho hbb hov
      by_cases h64 : k < 64
      case' pos => rw [if_pos h64] at b1
      case' neg => rw [if_neg h64] at b1
      all_goals
        rcases bb with _ | _
        all_goals
          rcases ov with _ | _
          all_goals
            go_wp2_with fail
            go_roundw
            case measure => simp [intOf]; omega
            case rel =>
              have hv1 := HV1.out
              have ho1 := HO1.out
              have hov := HOV.out
              first | rw [if_pos (of_decide_eq_true hov)] at hv1 | rw [if_neg (of_decide_eq_false hov), Nat.xor_zero] at hv1
              first | rw [if_pos rfl] at ho1 | rw [if_neg (by decide), Nat.xor_zero] at ho1
              refine ⟨k + 1, by omega, by go_num, Lib.hid ?_⟩
              rw [hv1, ho1]
              obtain rfl := HOH.out
              obtain rfl := HOL.out
              obtain rfl := HVH.out
              obtain rfl := HVL.out
              first
                | with_reducible exact HF.out.half
                | with_reducible exact (HF.out.sum HOK.out HVK.out).half
                | with_reducible exact HF.out.half.top HVH2.out (by omega)
                | with_reducible exact (HF.out.sum HOK.out HVK.out).half.top HVH2.out (by omega)
    · have hk128 : k = 128 := by omega
      have HA5 : Hid (Arr wr (w.heap.size + 1 + 1 + 1) 109 .u64 (hl (tm x h))) := Lib.hid (by have h1 := HF.out.2.2.2.1; rw [hk128] at h1; unfold tm; exact h1)
      have L1 := Lib.hid (blk_load (P := Try.prog) HA5.out Try.underlying109 rfl sizeBl)
      obtain ⟨w8, hs8, hz8, hg8⟩ := blk_storeAll (P := Try.prog) (ty := 109) (vs := iv .u64 (hl (tm x h))) HF.out.2.2.1 rfl (iv_one _ _) sizeBl
      have S8 := Lib.hid hs8
      have Z8 := Lib.hid hz8
      have B8 := Lib.hid (HF.out.2.2.2.2.trans (below_of_only hg8 (by omega) HF.out.2.2.2.2.size))
      clear hs8 hz8 hg8 hk128 HF
      go_wp2_with (first
        | ((with_reducible (show wpList _ _ _ (⟨some 63, .load _ _, _, _, _, _⟩ :: _) _ _)); refine wpList_loadV (o := ⟨some 63, .load _ _, _, _, _, _⟩) rfl _ rfl rfl (L1.out) ?_)
        | ((with_reducible (show wpList _ _ _ (⟨none, .store 109 _ _, _, _, _, _⟩ :: _) _ _)); refine wpList_storeV (o := ⟨none, .store 109 _ _, _, _, _, _⟩) rfl _ _ rfl rfl rfl (S8.out) ?_))
      refine ret_row rfl rfl Z8.out Try.underlying109 rfl sizeBl rfl ⟨rfl, B8.out⟩
end Go.Proofs.Ytieabfifaigjdaa
/- Contract of gcm: Hash. Conditions: as each theorem states them. -/
namespace Go.Proofs.Ytieabfifaigjdaa
open Go.RowKit
def lenS : Value → Nat
  | .slice _ n _ => n
  | _ => 0
theorem slice_lN {P : Program} {t e : TypeId} {k : IntKind} {bytes B n c : Nat} {w : World} {A : Option Addr} {xs : List Int} (E : ElT P t e k bytes) (hr : Rd B k w A xs) (hn : xs.length = n) (hc : n ≤ c) (l : Int) (m : Nat) (h0 : 0 ≤ l) (h2 : l ≤ n) (hm : (m : Int) = n - l) :
    ∃ A' c', m ≤ c' ∧ c' ≤ c ∧ Rd B k w A' (xs.drop l.toNat) ∧ (xs.drop l.toNat).length = m ∧
      ∀ (w : World) (kl : IntKind), (Instr.sliceAt t (.slice A n c) (some (.int kl l)) none none).run P w = .ok (.slice A' m c') w := by
  subst hn; exact slice_l E hr hc l m h0 h2 hm
/-- the frame of Hash: its result, its sum, its key -/
def HFr (w : World) (g6 H Y : Nat) (wr : World) : Prop :=
  Arr wr (w.heap.size + 1) 66 .u8 (nul 16) ∧ Arr wr (w.heap.size + 1 + 1) 109 .u64 (hl Y) ∧ Arr wr g6 109 .u64 (hl H) ∧ Below w.heap.size w wr ∧ w.heap.size + 1 + 1 < g6
theorem HFr.below {w w' wr : World} {g6 H Y : Nat} (h : HFr w g6 H Y wr) (hb : Below wr.heap.size wr w') : HFr w g6 H Y w' :=
  ⟨h.1.belowAll hb, h.2.1.belowAll hb, h.2.2.1.belowAll hb, h.2.2.2.1.trans (hb.mono h.2.2.2.1.size), h.2.2.2.2⟩
theorem HFr.put {w w' wr : World} {g6 H Y Y' : Nat} (h : HFr w g6 H Y wr) (hk : Arr w' (w.heap.size + 1 + 1) 109 .u64 (hl Y')) (hg : wr.grownBy w' (some (w.heap.size + 1 + 1))) : HFr w g6 H Y' w' :=
  ⟨h.1.grown hg (by simp), hk, h.2.2.1.grown hg (by have := h.2.2.2.2; simp; omega), h.2.2.2.1.trans (below_of_only hg (by omega) h.2.2.2.1.size), h.2.2.2.2⟩
theorem pc_ovi (X : List Int) (k m : Nat) (hm : m = Nat.min (X.drop (16 * k)).length 16) : ovi (nul 16) 0 ((X.drop (16 * k)).take m) = pc X k := by
  unfold ovi pc pad16 nul
  rw [List.take_zero, List.nil_append, Nat.zero_add, List.drop_replicate]
  have e : (X.drop (16 * k)).take m = (X.drop (16 * k)).take 16 := by
    rw [hm]
    rcases Nat.le_total (X.drop (16 * k)).length 16 with h | h
    · rw [show Nat.min (X.drop (16 * k)).length 16 = (X.drop (16 * k)).length from Nat.min_eq_left h, List.take_length, List.take_of_length_le h]
    · rw [show Nat.min (X.drop (16 * k)).length 16 = 16 from Nat.min_eq_right h]
  rw [e]
theorem drop_pc (X : List Int) (k m : Nat) (hm : m = Nat.min (X.drop (16 * k)).length 16) : (X.drop (16 * k)).drop m = X.drop (16 * (k + 1)) := by
  rw [hm]
  rcases Nat.le_total (X.drop (16 * k)).length 16 with h | h
  · rw [show Nat.min (X.drop (16 * k)).length 16 = (X.drop (16 * k)).length from Nat.min_eq_left h, List.drop_length]
    rw [List.length_drop] at h
    exact (List.drop_eq_nil_of_le (by omega)).symm
  · rw [show Nat.min (X.drop (16 * k)).length 16 = 16 from Nat.min_eq_right h, List.drop_drop, show 16 * k + 16 = 16 * (k + 1) by omega]
theorem ghK_z (h : Nat) (b : List Int) : ghK h b 0 = 0 := by unfold ghK; rfl
theorem ghK_s (h : Nat) (b : List Int) (k : Nat) : ghK h b (k + 1) = tm (ghK h b k ^^^ beN (pc b k)) h := by rw [ghK]
def zk (N k : Nat) : List Int := (List.range 16).map fun j => if j % 8 < k then ((N / 256 ^ (15 - j) % 256 : Nat) : Int) else 0
theorem zk_len (N k : Nat) : (zk N k).length = 16 := by unfold zk; simp
theorem zk_getD (N k : Nat) {j : Nat} (hj : j < 16) : (zk N k).getD j 0 = if j % 8 < k then ((N / 256 ^ (15 - j) % 256 : Nat) : Int) else 0 := by
  unfold zk
  rw [getD_el (by simpa using hj), List.getElem_map, List.getElem_range]
theorem zk_zero (N : Nat) : zk N 0 = nul 16 := rfl
theorem zk_full (N : Nat) : zk N 8 = b16 N := by
  refine ext16' (zk_len _ _) (b16_len _) fun j hj => ?_
  rw [zk_getD _ _ hj, if_pos (Nat.mod_lt _ (by decide))]
  unfold b16
  rw [byk_getD _ _ _ hj]
theorem zk_set (N : Nat) {k : Nat} (hk : k < 8) {a b : Int} (ha : a = ((N / 256 ^ (15 - k) % 256 : Nat) : Int)) (hb : b = ((N / 256 ^ (15 - (8 + k)) % 256 : Nat) : Int)) : ((zk N k).set k a).set (8 + k) b = zk N (k + 1) := by
  refine ext16' (by simp [zk_len]) (zk_len _ _) fun j hj => ?_
  rw [getD_set', getD_set', zk_getD _ _ hj, zk_getD _ _ hj, List.length_set, zk_len]
  by_cases h1 : 8 + k = j
  · subst h1
    rw [if_pos ⟨rfl, hj⟩, if_pos (by omega), hb]
  · rw [if_neg (fun h => h1 h.1)]
    by_cases h2 : k = j
    · subst h2
      rw [if_pos ⟨rfl, hj⟩, if_pos (by omega), ha]
    · rw [if_neg (fun h => h2 h.1)]
      by_cases h3 : j % 8 < k
      · rw [if_pos h3, if_pos (by omega)]
      · rw [if_neg h3, if_neg (by omega)]
theorem pow256_2 (k : Nat) : 256 ^ k = 2 ^ (8 * k) := by rw [Nat.pow_mul]
theorem hi_byte (N : Nat) {k : Nat} (hk : k < 8) : N / 18446744073709551616 / 2 ^ (56 - 8 * k) % 256 = N / 256 ^ (15 - k) % 256 := by
  rw [← two64, Nat.div_div_eq_div_mul, ← Nat.pow_add, pow256_2, show 64 + (56 - 8 * k) = 8 * (15 - k) by omega]
theorem lo_byte (N : Nat) {k : Nat} (hk : k < 8) : N % 18446744073709551616 / 2 ^ (56 - 8 * k) % 256 = N / 256 ^ (15 - (8 + k)) % 256 := by
  rw [← two64, pow256_2, show 8 * (15 - (8 + k)) = 56 - 8 * k by omega]
  apply Nat.eq_of_testBit_eq
  intro i
  rw [show (256 : Nat) = 2 ^ 8 by decide, Nat.testBit_mod_two_pow, Nat.testBit_mod_two_pow, Nat.testBit_div_two_pow, Nat.testBit_div_two_pow, Nat.testBit_mod_two_pow]
  by_cases hi : i < 8
  · rw [decide_eq_true hi, Bool.true_and, Bool.true_and, show decide (i + (56 - 8 * k) < 64) = true from decide_eq_true (by omega), Bool.true_and]
  · rw [decide_eq_false hi, Bool.false_and, Bool.false_and]
attribute [irreducible] zk
attribute [local irreducible] pc
set_option maxRecDepth 100000 in
set_option maxHeartbeats 8000000 in
theorem hash_any (A : Option Addr) (n c : Nat) (h X : List Int) (w : World) (hh : Blk16 h) (hX : Byt X) (hn : X.length = n) (hc : n ≤ c) (hr : Rd w.heap.size .u8 w A X) :
    Calls Try.prog 62 #[.agg (cellsL .u8 h), .slice A n c] w (RetV (.agg (cellsL .u8 (hashL h X))) w) := by
  have HH := Lib.hid hh
  have HX := Lib.hid hX
  have HN := Lib.hid hn
  have HR := Lib.hid hr
  have HGH := Lib.hid (beN_ok hh.1 hh.2)
  clear hh hX hn hr
  have A0 : Hid (Arr (((w.alloc (.cells (cellsL .u8 h) 66)).alloc (.cells (cellsL .u8 (nul 16)) 66)).alloc (.cells #[.int .u64 0, .int .u64 0] 109)) w.heap.size 66 .u8 h) := Lib.hid (((Arr.newAt rfl rfl).alloc _).alloc _)
  have A1 : Hid (Arr (((w.alloc (.cells (cellsL .u8 h) 66)).alloc (.cells (cellsL .u8 (nul 16)) 66)).alloc (.cells #[.int .u64 0, .int .u64 0] 109)) (w.heap.size + 1) 66 .u8 (nul 16)) := Lib.hid ((Arr.newAt (by simp) rfl).alloc _)
  have A2 : Hid (Arr (((w.alloc (.cells (cellsL .u8 h) 66)).alloc (.cells (cellsL .u8 (nul 16)) 66)).alloc (.cells #[.int .u64 0, .int .u64 0] 109)) (w.heap.size + 1 + 1) 109 .u64 (hl 0)) := Lib.hid (Arr.cast (Arr.newAt (xs := [0, 0]) (by simp) rfl) (by simp [hl]))
  have BB : Hid (Below w.heap.size w (((w.alloc (.cells (cellsL .u8 h) 66)).alloc (.cells (cellsL .u8 (nul 16)) 66)).alloc (.cells #[.int .u64 0, .int .u64 0] 109))) := Lib.hid ((((Below.refl _ _).alloc (Nat.le_refl _) _).alloc (by simp) _).alloc (by simp <;> omega) _)
  go_enter Try.func62, Try.ntmps62
  go_wp2_with fail
  refine Calls.mono (gof_any (some ⟨w.heap.size, 0, none⟩) _ h _ HH.out A0.out.rd) ?_
  rintro e w2 ⟨rfl, hb2⟩
  obtain ⟨H, hH⟩ : ∃ H, beN h = H := ⟨_, rfl⟩
  rw [hH]
  have HHH := Lib.hid hH
  rw [hH] at HGH
  have hsz : w.heap.size + 1 + 1 < w2.heap.size := by have := hb2.size; simp at this; omega
  have B2 := Lib.hid (A1.out.belowAll hb2)
  have C2 := Lib.hid (A2.out.belowAll hb2)
  have W2 := Lib.hid (BB.out.trans (hb2.mono BB.out.size))
  clear hb2 A0 A1 A2 BB hH
  go_wp2_with ((with_reducible (show wpList _ _ _ (⟨none, .store 109 _ _, _, _, _, _⟩ :: _) _ _)); refine wpList_storeArr (o := ⟨none, .store 109 _ _, _, _, _, _⟩) (g := w2.heap.size) (t := 109) (k := .u64) (xs := hl H) (n := 2) rfl _ _ rfl rfl rfl (Blk.new _ _ _) sizeBl rfl rfl ?_; intro w5 ha5 hg5; have A5 := Lib.hid ha5; have B5 := Lib.hid (((Below.refl w2.heap.size w2).alloc (Nat.le_refl _) _).trans (below_of_only hg5 (Nat.le_refl _) (by simp))); clear ha5 hg5)
  have F5 : Hid (HFr w w2.heap.size H (ghK H X 0) w5) := Lib.hid (by
    rw [ghK_z]
    exact ⟨B2.out.belowAll B5.out, C2.out.belowAll B5.out, A5.out, W2.out.trans (B5.out.mono W2.out.size), hsz⟩)
  have R5 : Hid (Rd w.heap.size .u8 w5 A (X.drop (16 * 0))) := Lib.hid (by rw [Nat.mul_zero, List.drop_zero]; exact HR.out.below F5.out.2.2.2.1 (Nat.le_refl _))
  have N5 : Hid (n = (X.drop (16 * 0)).length) := Lib.hid (by rw [Nat.mul_zero, List.drop_zero, HN.out])
  clear A5 B5 B2 C2 W2
  generalize w2.heap.size = g6 at *
  rw [put_none]
  go_loopw [1] (fun v wr => ∃ (k : Nat) (A : Option Addr) (n c : Nat), v = .slice A n c ∧ n ≤ c ∧ k ≤ nBlk X.length ∧ Hid (n = (X.drop (16 * k)).length) ∧ Hid (Rd w.heap.size .u8 wr A (X.drop (16 * k))) ∧ Hid (HFr w g6 H (ghK H X k) wr)) (fun v _ => lenS v)
  case atStart => exact ⟨0, A, n, c, rfl, hc, by omega, N5, R5, F5⟩
  case round =>
    clear F5 R5 N5 hc HR
    obtain ⟨k, A, n, c, rfl, hc, hk, HNN, HR, HF⟩ := hrel
    by_cases hlt : 0 < n
    · have hkb : k + 1 ≤ nBlk X.length := by
        have h1 := HNN.out
        rw [List.length_drop] at h1
        unfold nBlk
        omega
      obtain ⟨m, hm⟩ : ∃ m, m = Nat.min n 16 := ⟨_, rfl⟩
      have hmn : m ≤ n := by rw [hm]; exact Nat.min_le_left _ _
      have hm16 : m ≤ 16 := by rw [hm]; exact Nat.min_le_right _ _
      have hm0 : 0 < m := by rw [hm]; exact Nat.lt_min.2 ⟨hlt, by decide⟩
      have HM := Lib.hid hm
      have HPC := Lib.hid (pc_ovi X k m (by rw [← HNN.out]; exact hm))
      have HDP := Lib.hid (drop_pc X k m (by rw [← HNN.out]; exact hm))
      have HPK : Hid (Blk16 (pc X k)) := Lib.hid ⟨pc_len X k, pc_byt HX.out k⟩
      have HGS := Lib.hid (ghK_s H X k)
      have HGO := Lib.hid (ghK_ok HGH.out X k)
      generalize X.drop (16 * k) = L at *
      generalize pc X k = Q at *
      generalize ghK H X k = Y at *
      clear hm
      obtain ⟨A', c', p1, p2, p3, p4, p5⟩ := slice_lN elB8 HR.out HNN.out.symm hc (m : Int) (n - m) (by omega) (by omega) (by omega)
      have hmt : ((m : Int)).toNat = m := by omega
      rw [hmt] at p3 p4
      have P3 := Lib.hid p3
      have P4 := Lib.hid p4
      have HF7 := Lib.hid (HF.out.below ((Below.refl wr.heap.size wr).alloc (Nat.le_refl _) (.cells (cellsL .u8 (nul 16)) 66)))
      have B0 := Lib.hid ((Below.refl wr.heap.size wr).alloc (Nat.le_refl _) (.cells (cellsL .u8 (nul 16)) 66))
      have HSZ := HF.out.2.2.2.1.size
      clear p3 p4 hmt
      go_wp2_with ((with_reducible (show wpList _ _ _ (⟨some 19, _, _, _, _, _⟩ :: _) _ _)); refine wpList_copyAt (o := ⟨some 19, _, _, _, _, _⟩) (g := wr.heap.size) (off := 0) (m := m) (k := .u8) (xs := nul 16) rfl _ _ rfl Try.underlying22 sizeE1 rfl rfl (Arr.newAt rfl rfl) (HR.out.alloc HSZ _) HNN.out.symm ?_ ?_ ?_; (exact HM.out); (rw [nul_len]; omega); intro w6 ha6 hg6; rw [HPC.out] at ha6; have HA6 := Lib.hid ha6; have HB6 := Lib.hid (B0.out.trans (below_of_only hg6 (Nat.le_refl _) B0.out.size)); clear ha6 hg6)
      refine Calls.mono (gof_any (some ⟨wr.heap.size, 0, none⟩) _ Q _ HPK.out HA6.out.rd) ?_
      rintro e w7 ⟨rfl, hb7⟩
      have HB7 := Lib.hid (HB6.out.trans (hb7.mono HB6.out.size))
      have HQO := Lib.hid (beN_ok HPK.out.1 HPK.out.2)
      obtain ⟨q, hq⟩ : ∃ q, beN Q = q := ⟨_, rfl⟩
      rw [hq] at HGS HQO ⊢
      clear hb7 hq HA6 HB6 HF7 B0 hmn hm16 hm0
      obtain ⟨yh, hyh⟩ : ∃ t : Nat, Y / 18446744073709551616 = t := ⟨_, rfl⟩
      obtain ⟨yl, hyl⟩ : ∃ t : Nat, Y % 18446744073709551616 = t := ⟨_, rfl⟩
      obtain ⟨qh, hqh⟩ : ∃ t : Nat, q / 18446744073709551616 = t := ⟨_, rfl⟩
      obtain ⟨ql, hql⟩ : ∃ t : Nat, q % 18446744073709551616 = t := ⟨_, rfl⟩
      have HYL : Hid (hl Y = [(yh : Int), (yl : Int)]) := Lib.hid (by unfold hl; rw [hyh, hyl])
      have HQL : Hid (hl q = [(qh : Int), (ql : Int)]) := Lib.hid (by unfold hl; rw [hqh, hql])
      have HXR : Hid (#[Value.int .u64 (bits .xor .u64 (yh : Int) (qh : Int)), Value.int .u64 (bits .xor .u64 (yl : Int) (ql : Int))] = cellsL .u64 (hl (Y ^^^ q))) := Lib.hid (by rw [hl_xor HGO.out HQO.out, hyh, hyl, hqh, hql]; rfl)
      clear hyh hyl hqh hql
      go_wp2_with (first
        | ((with_reducible (show wpList _ _ _ (⟨none, .store 109 (.tmp 8) _, _, _, _, _⟩ :: _) _ _)); refine wpList_storeArr (o := ⟨none, .store 109 (.tmp 8) _, _, _, _, _⟩) (g := w7.heap.size) (t := 109) (k := .u64) (xs := hl q) (n := 2) rfl _ _ rfl rfl rfl (Blk.new _ _ _) sizeBl rfl rfl ?_; intro w8 ha8 hg8; have B8 := Lib.hid (HB7.out.trans ((((Below.refl w7.heap.size w7).alloc (Nat.le_refl _) _).trans (below_of_only hg8 (Nat.le_refl _) (by simp))).mono HB7.out.size)); have F8 := Lib.hid (HF.out.below B8.out); have c1 : w8.cell? ⟨w.heap.size + 1 + 1, 0, none⟩ = some (.int .u64 (yh : Int)) := (by have h := F8.out.2.1; rw [HYL.out] at h; exact h.cell (i := 0) (by simp)); have c2 : w8.cell? ⟨w.heap.size + 1 + 1, 1, none⟩ = some (.int .u64 (yl : Int)) := (by have h := F8.out.2.1; rw [HYL.out] at h; exact h.cell (i := 1) (by simp)); have c3 : w8.cell? ⟨w7.heap.size, 0, none⟩ = some (.int .u64 (qh : Int)) := (by have h := ha8; rw [HQL.out] at h; exact h.cell (i := 0) (by simp)); have c4 : w8.cell? ⟨w7.heap.size, 1, none⟩ = some (.int .u64 (ql : Int)) := (by have h := ha8; rw [HQL.out] at h; exact h.cell (i := 1) (by simp)); have L6 := Lib.hid (blk_load (P := Try.prog) F8.out.2.2.1 Try.underlying109 rfl sizeBl); clear ha8 hg8)
        | ((with_reducible (show wpList _ _ _ (⟨some 34, .load _ _, _, _, _, _⟩ :: _) _ _)); refine wpList_loadV (o := ⟨some 34, .load _ _, _, _, _, _⟩) rfl _ rfl rfl (L6.out) ?_))
      rw [HXR.out]
      refine Calls.mono (times_any (Y ^^^ q) H _ (HGO.out.xor HQO.out) HGH.out) ?_
      rintro e w10 ⟨rfl, hb10⟩
      rw [← HGS.out]
      have F10 := Lib.hid (F8.out.below hb10)
      have B10 := Lib.hid (B8.out.trans (hb10.mono B8.out.size))
      obtain ⟨w11, hs11, hz11, hg11⟩ := blk_storeAll (P := Try.prog) (ty := 109) (vs := iv .u64 (hl (ghK H X (k + 1)))) F10.out.2.1 rfl (iv_one _ _) sizeBl
      have S11 := Lib.hid hs11
      have F11 := Lib.hid (F10.out.put hz11 hg11)
      have R11 : Hid (Rd w.heap.size .u8 w11 A' (X.drop (16 * (k + 1)))) := Lib.hid (by
        rw [← HDP.out]
        exact P3.out.below ((B10.out.mono HSZ).trans (below_of_only hg11 (by omega) (Nat.le_trans HSZ B10.out.size))) (Nat.le_refl _))
      have N11 : Hid (n - m = (X.drop (16 * (k + 1))).length) := Lib.hid (by rw [← HDP.out, P4.out])
      have hmlt : n - m < n := by have := HM.out; have h0 : 0 < m := by rw [this]; exact Nat.lt_min.2 ⟨hlt, by decide⟩
                                  omega
      clear hs11 hz11 hg11 hb10 c1 c2 c3 c4 L6 HXR HYL HQL F8 B8 HB7 F10 B10 HGS HDP P3 P4
      go_wp2_with ((with_reducible (show wpList _ _ _ (⟨none, .store 109 _ _, _, _, _, _⟩ :: _) _ _)); refine wpList_storeV (o := ⟨none, .store 109 _ _, _, _, _, _⟩) rfl _ _ rfl rfl rfl (S11.out) ?_)
      rw [put_none]
      go_roundw
      case rel => exact ⟨k + 1, A', n - m, c', rfl, p1, hkb, N11, R11, F11⟩
      case measure => exact hmlt
    · have hkn : k = nBlk X.length := by
        have h1 := HNN.out
        rw [List.length_drop] at h1
        unfold nBlk at *
        omega
      have HHF : Hid (hashL h X = b16 (ghK H X (nBlk X.length))) := Lib.hid (by unfold hashL; rw [HHH.out])
      have HFF : Hid (HFr w g6 H (ghK H X (nBlk X.length)) wr) := Lib.hid (by rw [← hkn]; exact HF.out)
      have HNO := Lib.hid (ghK_ok HGH.out X (nBlk X.length))
      clear HF HR HNN hkn hk
      generalize ghK H X (nBlk X.length) = N at *
      go_wp2_with fail
      clear hlt
      obtain ⟨yh, hyh⟩ : ∃ t : Nat, N / 18446744073709551616 = t := ⟨_, rfl⟩
      obtain ⟨yl, hyl⟩ : ∃ t : Nat, N % 18446744073709551616 = t := ⟨_, rfl⟩
      have HYL : Hid (hl N = [(yh : Int), (yl : Int)]) := Lib.hid (by unfold hl; rw [hyh, hyl])
      have HHI : Hid (∀ k, k < 8 → yh / 2 ^ (56 - 8 * k) % 256 = N / 256 ^ (15 - k) % 256) := Lib.hid (fun k hk => by rw [← hyh]; exact hi_byte N hk)
      have HLO : Hid (∀ k, k < 8 → yl / 2 ^ (56 - 8 * k) % 256 = N / 256 ^ (15 - (8 + k)) % 256) := Lib.hid (fun k hk => by rw [← hyl]; exact lo_byte N hk)
      have hyl2 : yl < 18446744073709551616 := by rw [← hyl]; exact Nat.mod_lt _ (by decide)
      have hyh2 : yh < 18446744073709551616 := by have := HNO.out; unfold G128 at this; omega
      clear hyh hyl
      obtain ⟨wo, rfl⟩ : ∃ wo : World, wo = wr := ⟨_, rfl⟩
      have F0 := Lib.hid (HFF.out.below ((Below.refl wo.heap.size wo).alloc (Nat.le_refl _) (.cells (cellsL .u8 (nul 16)) 66)))
      have Z0 : Hid (Arr (wo.alloc (.cells (cellsL .u8 (nul 16)) 66)) wo.heap.size 66 .u8 (zk N 0)) := Lib.hid (by rw [zk_zero]; exact Arr.newAt rfl rfl)
      have HGG : w.heap.size + 1 + 1 < wo.heap.size := by have := HFF.out.2.2.1.lt; have := HFF.out.2.2.2.2; omega
      have HG6 : g6 < wo.heap.size := HFF.out.2.2.1.lt
      clear HFF
      go_loopw [36] (fun ii wr => ∃ k : Nat, k ≤ 8 ∧ ii = .int .i64 k ∧ Hid (Arr wr wo.heap.size 66 .u8 (zk N k)) ∧ Hid (HFr w g6 H N wr)) (fun ii _ => 8 - (intOf ii).toNat)
      case atStart => exact ⟨0, by omega, rfl, Z0, F0⟩
      case round =>
        clear F0 Z0
        obtain ⟨k, hk, rfl, HZ, HF⟩ := hrel
        by_cases hlt : k < 8
        · have HF1 := HF.out.2.1
          rw [HYL.out] at HF1
          have hC : ∀ v : World, Arr v (w.heap.size + 1 + 1) 109 .u64 [(yh : Int), (yl : Int)] → (v.cell? ⟨w.heap.size + 1 + 1, 0, none⟩ = some (.int .u64 (yh : Int)) ∧ v.cell? ⟨w.heap.size + 1 + 1, 1, none⟩ = some (.int .u64 (yl : Int))) := fun v h => ⟨h.cell (i := 0) (by simp), h.cell (i := 1) (by simp)⟩
          have hCC := Lib.hid (hC wr HF1)
          have HFQ := Lib.hid HF1
          clear hC HF1
          have p1 := fun r : CW (fun v : World => v.cell? ⟨w.heap.size + 1 + 1, 0, none⟩ = some (.int .u64 (yh : Int)) ∧ v.cell? ⟨w.heap.size + 1 + 1, 1, none⟩ = some (.int .u64 (yl : Int))) => r.holds.1
          have p2 := fun r : CW (fun v : World => v.cell? ⟨w.heap.size + 1 + 1, 0, none⟩ = some (.int .u64 (yh : Int)) ∧ v.cell? ⟨w.heap.size + 1 + 1, 1, none⟩ = some (.int .u64 (yl : Int))) => r.holds.2
          have hne : Nonempty (CW (fun v : World => v.cell? ⟨w.heap.size + 1 + 1, 0, none⟩ = some (.int .u64 (yh : Int)) ∧ v.cell? ⟨w.heap.size + 1 + 1, 1, none⟩ = some (.int .u64 (yl : Int)))) := CW.inh hCC.out
          have f1 := HZ.out.frozen k
          have f2 : ∀ v, (wr.setCell ⟨wo.heap.size, k, none⟩ v).frozen? ⟨wo.heap.size, 8 + k, none⟩ = false := fun v => Blk.frozen (Blk.set_ HZ.out k v) (8 + k)
          have q1 := HZ.out.cell (i := k) (by rw [zk_len]; omega)
          have e1 : (8 + (k : Int)).toNat = 8 + k := by omega
          go_wp2_with fail
          refine wp_region_mixO (fun v' : World => ∃ r : CW (fun v : World => v.cell? ⟨w.heap.size + 1 + 1, 0, none⟩ = some (.int .u64 (yh : Int)) ∧ v.cell? ⟨w.heap.size + 1 + 1, 1, none⟩ = some (.int .u64 (yl : Int))), v' = r.world) [([0, 1, 2, 3, 4, 5, 6, 7, 8, 9, 10, 11, 12, 13, 14, 15, 16, 17], 18), ([19], 20)] (by kernel_rfl) (by kernel_rfl) (by kernel_rfl) (by kernel_rfl) (by kernel_rfl) ⟨CW.mk' (w := wr.drew) hCC.out, rfl⟩ ?_
          simp only [pickL, List.map_cons, List.map_nil, List.filterMap_cons, List.filterMap_nil, List.getElem?_cons_succ, List.getElem?_cons_zero]
          refine mixO_cons ?_
          repeat (show wpQuiet _ _ _ _ (_ :: _) _; go_big_quiet_step (fail))
          refine wpQuiet_nil ?_
          show wpList _ _ _ [_] _ _
          go_wp2_with fail
          obtain ⟨a, ha⟩ : ∃ a : Int, (yh : Int) / 2 ^ (56 - 8 * k) % 256 = a := ⟨_, rfl⟩
          obtain ⟨b, hb⟩ : ∃ b : Int, (yl : Int) / 2 ^ (56 - 8 * k) % 256 = b := ⟨_, rfl⟩
          have HZS := Lib.hid (zk_set N hlt (a := a) (b := b) (by rw [← ha, castdiv, ← HHI.out k hlt]; rfl) (by rw [← hb, castdiv, ← HLO.out k hlt]; rfl))
          rw [ha]
          have HZ3 := Lib.hid (Arr.drew (HZ.out.set k a))
          have HF3 : Hid (HFr w g6 H N (wr.setCell ⟨wo.heap.size, k, none⟩ (.int .u8 a)).drew) := Lib.hid ⟨HF.out.1.far (by simp; omega) _, HF.out.2.1.far (by simp; omega) _, HF.out.2.2.1.far (by simp; omega) _, (HF.out.2.2.2.1.setCell (by simp; omega) _).drew, HF.out.2.2.2.2⟩
          have hS3 : (wr.setCell ⟨wo.heap.size, k, none⟩ (.int .u8 a)).drew.cell? ⟨w.heap.size + 1 + 1, 0, none⟩ = some (.int .u64 (yh : Int)) ∧ (wr.setCell ⟨wo.heap.size, k, none⟩ (.int .u8 a)).drew.cell? ⟨w.heap.size + 1 + 1, 1, none⟩ = some (.int .u64 (yl : Int)) := by
            have h := HF3.out.2.1
            rw [HYL.out] at h
            exact ⟨h.cell (i := 0) (by simp), h.cell (i := 1) (by simp)⟩
          generalize (wr.setCell ⟨wo.heap.size, k, none⟩ (.int .u8 a)).drew = w3 at *
          clear f1 f2 q1 ha HZ HF HFQ hCC
          have f2 := HZ3.out.frozen (8 + k)
          have q2 := HZ3.out.cell (i := 8 + k) (by rw [List.length_set, zk_len]; omega)
          generalize ((zk N k).set k a).getD (8 + k) 0 = old at q2
          refine MixO.narrow (fun _ h => h) (⟨CW.mk' (w := w3) hS3, rfl⟩) ?_
          refine mixO_cons ?_
          repeat (show wpQuiet _ _ _ _ (_ :: _) _; go_big_quiet_step (fail))
          refine wpQuiet_nil ?_
          show wpList _ _ _ [_] _ _
          go_wp2_with fail
          rw [hb]
          refine MixO.last ?_
          refine mixO_nil ?_
          refine wpQuiet_nil ?_
          refine NoPanic.normal ?_
          have HZ4 : Hid (Arr (w3.setCell ⟨wo.heap.size, 8 + k, none⟩ (.int .u8 b)) wo.heap.size 66 .u8 (zk N (k + 1))) := Lib.hid (Arr.cast (HZ3.out.set (8 + k) b) HZS.out)
          have HF4 : Hid (HFr w g6 H N (w3.setCell ⟨wo.heap.size, 8 + k, none⟩ (.int .u8 b))) := Lib.hid ⟨HF3.out.1.far (by simp; omega) _, HF3.out.2.1.far (by simp; omega) _, HF3.out.2.2.1.far (by simp; omega) _, HF3.out.2.2.2.1.setCell (by simp; omega) _, HF3.out.2.2.2.2⟩
          clear f2 q2 HZ3 HF3 HZS e1 hS3 p1 p2 hne hb
          go_wp2_with fail
          go_roundw
          case rel => exact ⟨k + 1, by omega, by go_num, HZ4, HF4⟩
          case measure => simp [intOf]; omega
        · have HZ2 : Hid (Arr wr wo.heap.size 66 .u8 (b16 N)) := Lib.hid (Arr.cast HZ.out (by rw [show k = 8 by omega, zk_full]))
          have L59 := Lib.hid (arr_load HZ2.out Try.underlying66 sizeE16 (b16_len N).symm)
          obtain ⟨w8, hs8, hz8, hg8⟩ := blk_storeAll (P := Try.prog) (ty := 66) (vs := iv .u8 (b16 N)) HF.out.1 (by rw [iv_len, b16_len, List.size_toArray, List.length_map, nul_len]) (iv_one _ _) (by rw [iv_len, b16_len]; exact sizeE16)
          have S8 := Lib.hid hs8
          have Z8 := Lib.hid hz8
          have B8 := Lib.hid (HF.out.2.2.2.1.trans (below_of_only hg8 (by omega) HF.out.2.2.2.1.size))
          clear hs8 hz8 hg8 HZ HZ2 HF
          go_wp2_with (first
            | ((with_reducible (show wpList _ _ _ (⟨some 59, .load _ _, _, _, _, _⟩ :: _) _ _)); refine wpList_loadV (o := ⟨some 59, .load _ _, _, _, _, _⟩) rfl _ rfl rfl (L59.out) ?_)
            | ((with_reducible (show wpList _ _ _ (⟨none, .store 66 _ _, _, _, _, _⟩ :: _) _ _)); refine wpList_storeV (o := ⟨none, .store 66 _ _, _, _, _, _⟩) rfl _ _ rfl rfl rfl (S8.out) ?_))
          refine ret_row rfl rfl Z8.out Try.underlying66 rfl (by rw [List.size_toArray, iv_len, b16_len]; exact sizeE16) rfl ⟨by rw [HHF.out]; rfl, B8.out⟩
end Go.Proofs.Ytieabfifaigjdaa
/- Contract of gcm: stream.block. Conditions: as each theorem states them. -/
namespace Go.Proofs.Ytieabfifaigjdaa
open Go.RowKit
/-- a stream's cells -/
def stV (gc : Nat) (nonce : List Int) : List Value := .pointer (some ⟨gc, 0, none⟩) :: iv .u8 nonce
theorem stV_len (gc : Nat) {nonce : List Int} (h : nonce.length = 12) : (stV gc nonce).length = 13 := by unfold stV; rw [List.length_cons, iv_len, h]
theorem stV_cut (gc : Nat) (nonce : List Int) : stV gc nonce = [Value.pointer (some ⟨gc, 0, none⟩)] ++ (iv .u8 nonce ++ []) := by unfold stV; simp
theorem byk_snoc {m n k : Nat} (hk : k < m) : (byk m n).take (k + 1) = (byk m n).take k ++ [((n / 256 ^ (m - 1 - k) % 256 : Nat) : Int)] := by
  rw [take_snoc_getD (by rw [byk_len]; exact hk), byk_getD _ _ _ hk]
set_option maxRecDepth 100000 in
set_option maxHeartbeats 4000000 in
theorem sblock_any (gc i : Nat) (K nonce : List Int) (w : World) (hK : Blk16 K) (hn : nonce.length = 12) (hnb : Byt nonce) (hC : Ci w gc K) :
    Calls Try.prog 60 #[.agg (stV gc nonce).toArray, .int .u32 (i : Int)] w (RetV (.agg (cellsL .u8 (ctrL K nonce i))) w) := by
  have HK := Lib.hid hK
  have HN := Lib.hid hn
  have HI := Lib.hid (ctr_in hn hnb i)
  have HCT : Hid (ctrL K nonce i = aesL K (nonce ++ byk 4 i)) := Lib.hid rfl
  have HC := Lib.hid hC
  have HAO := Lib.hid (aesL_ok hK HI.out).1
  clear hK hn hnb hC
  have A0 : Hid (Blk (((w.alloc (.cells (stV gc nonce).toArray 75)).alloc (.cells (cellsL .u8 (nul 16)) 66)).alloc (.cells (cellsL .u8 (nul 16)) 66)) w.heap.size 75 ([Value.pointer (some ⟨gc, 0, none⟩)] ++ (iv .u8 nonce ++ [])).toArray) := Lib.hid (by rw [← stV_cut]; exact ((Blk.new _ _ _).alloc _).alloc _)
  have A1 : Hid (Arr (((w.alloc (.cells (stV gc nonce).toArray 75)).alloc (.cells (cellsL .u8 (nul 16)) 66)).alloc (.cells (cellsL .u8 (nul 16)) 66)) (w.heap.size + 1) 66 .u8 (nul 16)) := Lib.hid ((Arr.newAt (by simp) rfl).alloc _)
  have A2 : Hid (Arr (((w.alloc (.cells (stV gc nonce).toArray 75)).alloc (.cells (cellsL .u8 (nul 16)) 66)).alloc (.cells (cellsL .u8 (nul 16)) 66)) (w.heap.size + 1 + 1) 66 .u8 (nul 16)) := Lib.hid (Arr.newAt (by simp) rfl)
  have BB : Hid (Below w.heap.size w (((w.alloc (.cells (stV gc nonce).toArray 75)).alloc (.cells (cellsL .u8 (nul 16)) 66)).alloc (.cells (cellsL .u8 (nul 16)) 66))) := Lib.hid ((((Below.refl _ _).alloc (Nat.le_refl _) _).alloc (by simp) _).alloc (by simp <;> omega) _)
  go_enter Try.func60, Try.ntmps60
  go_wp2_with fail
  have hov : ovi (nul 16) 0 (nonce.take 12) = flN 16 nonce := by
    rw [List.take_of_length_le (by rw [HN.out]; exact Nat.le_refl _)]
    unfold ovi flN nul
    rw [List.take_zero, List.nil_append, Nat.zero_add, List.drop_replicate]
  have HOV := Lib.hid hov
  clear hov
  refine wp_region_mixOB w.heap.size [([0, 1, 2], 3)] (by kernel_rfl) (by kernel_rfl) (by kernel_rfl) (by kernel_rfl) (by kernel_rfl) ?_
  try (rw [put_none])
  simp only [pickL, List.map_cons, List.map_nil, List.filterMap_cons, List.filterMap_nil, List.getElem?_cons_succ, List.getElem?_cons_zero]
  refine mixO_cons ?_
  repeat (show wpQuiet _ _ _ _ (_ :: _) _; go_big_quiet_step (fail))
  refine wpQuiet_nil ?_
  show wpList _ _ _ [_] _ _
  go_wp2_with ((with_reducible (show wpList _ _ _ (⟨some 10, _, _, _, _, _⟩ :: _) _ _)); refine wpList_copyAt (o := ⟨some 10, _, _, _, _, _⟩) (g := w.heap.size + 1 + 1) (off := 0) (m := 12) (k := .u8) (xs := nul 16) rfl _ _ rfl Try.underlying22 sizeE1 rfl rfl (Arr.drew A2.out) (Rd.drew (blk_rd A0.out rfl)) HN.out ?_ ?_ ?_; (rfl); (rw [nul_len]; omega); intro w6 ha6 hg6; rw [HOV.out] at ha6; have HA6 := Lib.hid ha6; have HB6 := Lib.hid (BB.out.drew.trans (below_of_only hg6 (by omega) BB.out.drew.size)); have H06 : Hid (Blk w6 w.heap.size 75 ([Value.pointer (some ⟨gc, 0, none⟩)] ++ (iv .u8 nonce ++ [])).toArray) := Lib.hid (Blk.grown (Blk.drew A0.out) hg6 (by simp <;> omega)); have H16 : Hid (Arr w6 (w.heap.size + 1) 66 .u8 (nul 16)) := Lib.hid (Arr.grown (Arr.drew A1.out) hg6 (by simp <;> omega)); clear ha6 hg6)
  refine MixO.last ?_
  refine mixO_nil ?_
  refine wpQuiet_nil ?_
  refine NoPanic.normal ?_
  clear A0 A1 A2 BB HOV
  have HZ6 : Hid (Arr w6 (w.heap.size + 1 + 1) 66 .u8 (flN 16 (nonce ++ (byk 4 i).take 0))) := Lib.hid (by rw [List.take_zero, List.append_nil]; exact HA6.out)
  clear HA6
  go_wp2_with fail
  go_loopw [11] (fun ii wr => ∃ k : Nat, k ≤ 4 ∧ ii = .int .i64 k ∧ Hid (Arr wr (w.heap.size + 1 + 1) 66 .u8 (flN 16 (nonce ++ (byk 4 i).take k))) ∧ Hid (Blk wr w.heap.size 75 ([Value.pointer (some ⟨gc, 0, none⟩)] ++ (iv .u8 nonce ++ [])).toArray) ∧ Hid (Arr wr (w.heap.size + 1) 66 .u8 (nul 16)) ∧ Hid (Below w.heap.size w wr)) (fun ii _ => 4 - (intOf ii).toNat)
  case atStart => exact ⟨0, by omega, rfl, HZ6, H06, H16, HB6⟩
  case round =>
    clear HZ6 H06 H16 HB6
    obtain ⟨k, hk, rfl, HZ, H0, H1, HB⟩ := hrel
    by_cases hlt : k < 4
    · have hfl : Hid ((flN 16 (nonce ++ (byk 4 i).take k)).length = 16) := Lib.hid (flN_len (by rw [List.length_append, List.length_take, byk_len, HN.out]; omega))
      have hll : (nonce ++ (byk 4 i).take k).length = 12 + k := by rw [List.length_append, List.length_take, byk_len, HN.out]; omega
      have HSF := set_flN (N := 16) (xs := nonce ++ (byk 4 i).take k) ((i / 256 ^ (3 - k) % 256 : Nat) : Int) (by rw [hll]; omega)
      rw [hll, List.append_assoc, ← byk_snoc hlt] at HSF
      have HS9 := Lib.hid HSF
      clear HSF hll
      have c1 := HZ.out.cell (i := 12 + k) (by rw [hfl.out]; omega)
      have f1 := HZ.out.frozen (12 + k)
      have e1 : (12 + (k : Int)).toNat = 12 + k := by omega
      have HV : Hid ((i : Int) / 2 ^ (24 - 8 * k) % 256 = ((i / 256 ^ (3 - k) % 256 : Nat) : Int)) := Lib.hid (by
        rw [castdiv, pow256_2, show 8 * (3 - k) = 24 - 8 * k by omega]; rfl)
      generalize (flN 16 (nonce ++ (byk 4 i).take k)).getD (12 + k) 0 = old at *
      go_wp2_with fail
      rw [HV.out]
      go_roundw
      case rel => exact ⟨k + 1, by omega, by go_num, Lib.hid (Arr.cast (HZ.out.set (12 + k) _) HS9.out), Lib.hid (H0.out.far (by simp <;> omega) _), Lib.hid (H1.out.far (by simp <;> omega) _), Lib.hid (HB.out.setCell (by simp <;> omega) _)⟩
      case measure => simp [intOf]; omega
    · have HZ2 : Hid (Arr wr (w.heap.size + 1 + 1) 66 .u8 (nonce ++ byk 4 i)) := Lib.hid (Arr.cast HZ.out (by
        rw [List.take_of_length_le (l := byk 4 i) (by rw [byk_len]; omega), flN_full HI.out.1]))
      have L26 := Lib.hid (arr_load HZ2.out Try.underlying66 sizeE16 HI.out.1.symm)
      have c0 : wr.cell? ⟨w.heap.size, 0, none⟩ = some (.pointer (some ⟨gc, 0, none⟩)) := by rw [Blk.cell H0.out 0]; rfl
      clear HZ HZ2 H0
      go_wp2_with ((with_reducible (show wpList _ _ _ (⟨some 26, .load _ _, _, _, _, _⟩ :: _) _ _)); refine wpList_loadV (o := ⟨some 26, .load _ _, _, _, _, _⟩) rfl _ rfl rfl (L26.out) ?_)
      refine Calls.mono (aseal_any gc K (nonce ++ byk 4 i) _ HK.out HI.out (HC.out.below HB.out HC.out.lt)) ?_
      rintro e w9 ⟨rfl, hb9⟩
      have H19 := Lib.hid (H1.out.belowAll hb9)
      have HB9 := Lib.hid (HB.out.trans (hb9.mono HB.out.size))
      obtain ⟨w8, hs8, hz8, hg8⟩ := blk_storeAll (P := Try.prog) (ty := 66) (vs := iv .u8 (aesL K (nonce ++ byk 4 i))) H19.out (by rw [iv_len, HAO.out, List.size_toArray, List.length_map, nul_len]) (iv_one _ _) (by rw [iv_len, HAO.out]; exact sizeE16)
      have S8 := Lib.hid hs8
      have Z8 := Lib.hid hz8
      have B8 := Lib.hid (HB9.out.trans (below_of_only hg8 (by omega) HB9.out.size))
      clear hs8 hz8 hg8 hb9 H1 HB H19 c0 L26
      go_wp2_with ((with_reducible (show wpList _ _ _ (⟨none, .store 66 _ _, _, _, _, _⟩ :: _) _ _)); refine wpList_storeV (o := ⟨none, .store 66 _ _, _, _, _, _⟩) rfl _ _ rfl rfl rfl (S8.out) ?_)
      refine ret_row rfl rfl Z8.out Try.underlying66 rfl (by rw [List.size_toArray, iv_len, HAO.out]; exact sizeE16) rfl ⟨by rw [HCT.out]; rfl, B8.out⟩
end Go.Proofs.Ytieabfifaigjdaa
/- Contract of gcm: stream.turn. Conditions: as each theorem states them. -/
namespace Go.Proofs.Ytieabfifaigjdaa
open Go.RowKit
theorem slice_lA {P : Program} {t e : TypeId} {k : IntKind} {bytes n c : Nat} (E : ElT P t e k bytes) (A : Option Addr) (hc : n ≤ c) (l : Int) (m : Nat) (h0 : 0 ≤ l) (h2 : l ≤ n) (hm : (m : Int) = n - l) :
    ∃ A' c', m ≤ c' ∧ (0 < m → ∀ ad, A = some ad → A' = some (ad.add l.toNat)) ∧
      ∀ (w : World) (kl : IntKind), (Instr.sliceAt t (.slice A n c) (some (.int kl l)) none none).run P w = .ok (.slice A' m c') w := by
  refine ⟨if c = l.toNat then A else A.map (·.add (l.toNat * 1)), c - l.toNat, by omega, fun h0 ad hA => ?_, fun w kl => ?_⟩
  · rw [if_neg (by omega), hA, Nat.mul_one]; rfl
  · rw [run_sliceAt_slice _ _ _ _ _ _ (by rw [E.elem]; exact E.ht), run_slice_l _ _ _ _ _ (by rw [E.elem]; exact E.ht) kl l h0 h2, E.elem, E.size]
    simp [Result.andThen, sliced, show n - l.toNat = m by omega]
theorem idxB {P : Program} {t e : TypeId} {n : Nat} {k : IntKind} {kd : IntKind} {xs : List Int} (ht : P.underlying t = some (.array n e)) (he : P.underlying e = some (.int kd)) (hi : ∀ w, (sizeOf e).run P w = .ok 1 w) (hl : xs.length = n) {i : Nat} (hlt : i < n) (ik : IntKind) (w : World) :
    (Instr.index t (.agg (cellsL k xs)) (.int ik (i : Int))).run P w = .ok (.int k (xs.getD i 0)) w := by
  have hx : (cellsL k xs)[i]? = some (.int k (xs.getD i 0)) := by
    unfold cellsL
    simp [List.getElem?_eq_getElem (show i < xs.length by omega), List.getD_eq_getElem?_getD]
  simp [Instr.index, run_underlying ht, asIntOf, part, isAgg, run_underlying he, hi, hlt, hx]
theorem size90 : (Try.prog.info? 75).map (·.size) = some 13 := by kernel_rfl
theorem mix_past {xs ys : List Int} (h : xs.length = ys.length) {k : Nat} (hk : xs.length ≤ k) : mixL xs ys k = ys := by
  unfold mixL
  rw [List.take_of_length_le (by omega), List.drop_eq_nil_of_le hk, List.append_nil]
def TFr (w : World) (gc : Nat) (nonce : List Int) (A : Option Addr) (n c : Nat) (L : List Int) (wr : World) : Prop :=
  Own (w.heap.size + 1) 5 .u8 wr A n c L ∧ Blk wr w.heap.size 75 (stV gc nonce).toArray ∧ Below w.heap.size w wr
theorem TFr.below {w w' wr : World} {gc n c : Nat} {nonce L : List Int} {A : Option Addr} (h : TFr w gc nonce A n c L wr) (hb : Below wr.heap.size wr w') : TFr w gc nonce A n c L w' :=
  ⟨h.1.below hb, h.2.1.below hb (Blk.lt h.2.1), h.2.2.trans (hb.mono h.2.2.size)⟩
theorem TFr.set {w wr : World} {gc g n c : Nat} {nonce L L' : List Int} (h : TFr w gc nonce (some ⟨g, 0, none⟩) n c L wr) (i : Nat) (z : Int) (e : L.set i z = L') : TFr w gc nonce (some ⟨g, 0, none⟩) n c L' (wr.setCell ⟨g, i, none⟩ (.int .u8 z)) :=
  have hg := (h.1.block _ rfl).1
  ⟨(h.1.set_ i z).cast e, h.2.1.far (by simp at hg; simp; omega) _, h.2.2.setCell (by simp at hg; simp; omega) _⟩
set_option maxRecDepth 100000 in
set_option maxHeartbeats 8000000 in
theorem sturn_any (gc n c : Nat) (A : Option Addr) (K nonce b : List Int) (w : World) (hK : Blk16 K) (hn : nonce.length = 12) (hnb : Byt nonce) (hC : Ci w gc K) (hb : b.length = n) (hbl : n ≤ 10000) (hr : Rd w.heap.size .u8 w A b) :
    Calls Try.prog 41 #[.agg (stV gc nonce).toArray, .slice A n c] w (RetOwn 5 .u8 (turnL K nonce b) w) := by
  have HK := Lib.hid hK
  have HN := Lib.hid hn
  have HNB := Lib.hid hnb
  have HC := Lib.hid hC
  have HBL := Lib.hid hb
  have HR := Lib.hid (hr.alloc (Nat.le_refl _) (.cells (stV gc nonce).toArray 75))
  have HTL : Hid ((turnL K nonce b).length = n) := Lib.hid (by rw [turnL_len, hb])
  have HTG : Hid (∀ k j, j < 16 → 16 * k + j < n → (turnL K nonce b).getD (16 * k + j) 0 = xb (b.getD (16 * k + j) 0) ((ctrL K nonce (2 + k)).getD j 0)) := Lib.hid (fun k j hj hlt => by
    rw [turnL_getD K nonce b (by omega), show (16 * k + j) / 16 = k by omega, show (16 * k + j) % 16 = j by omega])
  have HCL : Hid (∀ k, (ctrL K nonce k).length = 16) := Lib.hid (fun k => (ctrL_ok hK hn hnb k).1)
  generalize turnL K nonce b = T at *
  clear hK hn hnb hC hb hr
  have B0 : Hid (Below w.heap.size w (w.alloc (.cells (stV gc nonce).toArray 75))) := Lib.hid ((Below.refl _ _).alloc (Nat.le_refl _) _)
  have S0 : Hid (Blk (w.alloc (.cells (stV gc nonce).toArray 75)) w.heap.size 75 (stV gc nonce).toArray) := Lib.hid (Blk.new _ _ _)
  go_enter Try.func41, Try.ntmps41
  go_wp2_with (at_builtin; refine wpList_app (o := ⟨some 11, _, _, _, _, _⟩) elB8 rfl _ _ rfl rfl rfl (Own.nil (w.heap.size + 1) _ _ _) HR.out HBL.out.symm ?_ ?_ ?_; (rw [HBL.out]; simp <;> omega); (simp); intro A2 n2 c2 w2 q2; have H2 : Hid (Own (w.heap.size + 1) 5 .u8 w2 A2 n2 c2 b) := Lib.hid q2.1; obtain rfl : n2 = n := (by rw [q2.1.len, List.nil_append, HBL.out]); have B2 := Lib.hid q2.2.2.1; clear q2)
  have F2 : Hid (TFr w gc nonce A2 n2 c2 (mixL b T (16 * 0)) w2) := Lib.hid (by
    rw [Nat.mul_zero, mix_zero]
    exact ⟨H2.out, S0.out.below B2.out (by omega), B0.out.trans (B2.out.mono (by omega))⟩)
  have G2 : Hid (0 < n2 → ∃ g, A2 = some ⟨g, 0, none⟩) := Lib.hid (fun h => by obtain ⟨g, hg, _⟩ := H2.out.addr h; exact ⟨g, hg⟩)
  have hcap := H2.out.cap.1
  clear H2 B0 S0 B2 HR
  go_loopw [6, 7] (fun u v wr => ∃ (k : Nat) (A' : Option Addr) (n' c' : Nat), u = .int .u32 ((2 + k : Nat) : Int) ∧ v = .slice A' n' c' ∧ n' ≤ c' ∧ k ≤ nBlk n2 ∧ Hid (n' = n2 - 16 * k) ∧ Hid (0 < n' → ∃ g, A' = some ⟨g, 16 * k, none⟩ ∧ A2 = some ⟨g, 0, none⟩) ∧ Hid (TFr w gc nonce A2 n2 c2 (mixL b T (16 * k)) wr)) (fun _ v _ => lenS v)
  case atStart => exact ⟨0, A2, n2, c2, rfl, rfl, hcap, by omega, Lib.hid (by omega), Lib.hid (fun h => by obtain ⟨g, hg⟩ := G2.out h; exact ⟨g, hg, hg⟩), F2⟩
  case round =>
    clear F2 G2 hcap
    obtain ⟨k, A', n', c', rfl, rfl, hc', hk, HN', HG, HF⟩ := hrel
    by_cases hlt : 0 < n'
    · obtain ⟨g, hgA, hg2⟩ := HG.out hlt
      subst hgA
      subst hg2
      have hn' := HN'.out
      have hkb : k + 1 ≤ nBlk n2 := by unfold nBlk; omega
      have hkk : k < 626 := by omega
      have HNk := Lib.hid hn'
      have HKB := Lib.hid hkb
      have L18 := Lib.hid (blk_load (P := Try.prog) HF.out.2.1 Try.underlying75 rfl (by rw [List.size_toArray, stV_len gc HN.out]; exact size90))
      have HTG2 := Lib.hid (HTG.out k)
      have HCL2 := Lib.hid (HCL.out (2 + k))
      clear hn' hkb HG HN'
      go_wp2_with ((with_reducible (show wpList _ _ _ (⟨some 18, .load _ _, _, _, _, _⟩ :: _) _ _)); refine wpList_loadV (o := ⟨some 18, .load _ _, _, _, _, _⟩) rfl _ rfl rfl (L18.out) ?_)
      refine Calls.mono (sblock_any gc (2 + k) K nonce _ HK.out HN.out HNB.out (HC.out.below HF.out.2.2 HC.out.lt)) ?_
      rintro e w7 ⟨rfl, hb7⟩
      have F7 : Hid (TFr w gc nonce (some ⟨g, 0, none⟩) n2 c2 (mixL b T (16 * k + 0)) w7) := Lib.hid (HF.out.below hb7)
      clear hb7 HF L18
      generalize ctrL K nonce (2 + k) = S at *
      go_wp2_with fail
      go_loopw [21] (fun ii wr => ∃ j : Nat, j ≤ 16 ∧ ii = .int .i64 j ∧ Hid (TFr w gc nonce (some ⟨g, 0, none⟩) n2 c2 (mixL b T (16 * k + j)) wr)) (fun ii _ => 16 - (intOf ii).toNat)
      case atStart => exact ⟨0, by omega, rfl, F7⟩
      case round =>
        clear F7
        obtain ⟨j, hj, rfl, HF⟩ := hrel
        by_cases hj16 : j < 16
        · have hix := fun v => idxB (P := Try.prog) Try.underlying66 Try.underlying5 elB8.size HCL2.out (k := .u8) hj16 .i64 v
          by_cases hjn : j < n'
          · have hjn2 : 16 * k + j < n2 := by have := HNk.out; omega
            have HE := Lib.hid (HTG2.out j hj16 hjn2)
            have hml : Hid ((mixL b T (16 * k + j)).length = n2) := Lib.hid (by rw [mix_len (by rw [HBL.out, HTL.out]) (by rw [HBL.out]; omega), HBL.out])
            have c1 : wr.cell? ⟨g, 16 * k + j, none⟩ = some (.int .u8 (b.getD (16 * k + j) 0)) := by
              have := HF.out.1.cell0 (i := 16 * k + j) (by rw [hml.out]; omega)
              rwa [mix_get (by rw [HBL.out, HTL.out]) (Nat.le_refl _)] at this
            have f1 := HF.out.1.frozen (16 * k + j)
            have HMS := Lib.hid (mix_set (xs := b) (ys := T) (k := 16 * k + j) (by rw [HBL.out, HTL.out]) (by rw [HBL.out]; exact hjn2))
            rw [HE.out] at HMS
            generalize S.getD j 0 = y at *
            generalize b.getD (16 * k + j) 0 = x at *
            go_wp2_with fail
            have F9 := Lib.hid (HF.out.set (16 * k + j) (bits .xor .u8 x y) HMS.out)
            clear c1 f1 HMS HE hml HF hix
            go_roundw
            case rel => exact ⟨j + 1, by omega, by go_num, F9⟩
            case measure => simp [intOf]; omega
          · have F9 : Hid (TFr w gc nonce (some ⟨g, 0, none⟩) n2 c2 (mixL b T (16 * k + (j + 1))) wr) := Lib.hid (by
              have h := HF.out
              have h2 := HNk.out
              rw [mix_past (by rw [HBL.out, HTL.out]) (by rw [HBL.out]; omega)] at h ⊢
              exact h)
            clear HF
            generalize S.getD j 0 = y at *
            go_wp2_with fail
            clear hix
            go_roundw
            case rel => exact ⟨j + 1, by omega, by go_num, F9⟩
            case measure => simp [intOf]; omega
        · have F9 : Hid (TFr w gc nonce (some ⟨g, 0, none⟩) n2 c2 (mixL b T (16 * (k + 1))) wr) := Lib.hid (by
            have h := HF.out
            rwa [show 16 * k + j = 16 * (k + 1) by omega] at h)
          have hj16' : j = 16 := by omega
          subst hj16'
          clear HF hj HTG2 hj16
          by_cases h16 : n' < 16
          · obtain ⟨A3, c3, q1, q2, q3⟩ := slice_lA elB8 (some ⟨g, 16 * k, none⟩) hc' (n' : Int) 0 (by omega) (by omega) (by omega)
            go_wp2_with fail
            clear q2 q3
            go_roundw
            case rel => exact ⟨k + 1, A3, 0, c3, by congr 1, rfl, q1, HKB.out, Lib.hid (by have := HNk.out; omega), Lib.hid (fun h => absurd h (by omega)), F9⟩
            case measure => exact hlt
          · obtain ⟨A3, c3, q1, q2, q3⟩ := slice_lA elB8 (some ⟨g, 16 * k, none⟩) hc' 16 (n' - 16) (by omega) (by omega) (by omega)
            have Q2 : Hid (0 < n' - 16 → ∃ g2, A3 = some ⟨g2, 16 * (k + 1), none⟩ ∧ some (⟨g, 0, none⟩ : Addr) = some ⟨g2, 0, none⟩) := Lib.hid (fun h => ⟨g, by
              rw [q2 h _ rfl]
              show some ((⟨g, 16 * k, none⟩ : Addr).add 16) = _
              rw [Addr.add_mid]; rfl, rfl⟩)
            clear q2
            go_wp2_with fail
            clear q3
            go_roundw
            case rel => exact ⟨k + 1, A3, n' - 16, c3, by congr 1, rfl, q1, HKB.out, Lib.hid (by have := HNk.out; omega), Q2, F9⟩
            case measure => show n' - 16 < n'; omega
    · have HF9 : Hid (TFr w gc nonce A2 n2 c2 T wr) := Lib.hid (by
        have h := HF.out
        have h2 := HN'.out
        rwa [mix_past (by rw [HBL.out, HTL.out]) (by rw [HBL.out]; omega)] at h)
      clear HF HG HN' hk hc'
      go_wp2_with fail
      go_ret
      exact ⟨A2, n2, c2, rfl, HF9.out.1.mono (by omega), HF9.out.2.2⟩
end Go.Proofs.Ytieabfifaigjdaa
/- Contract of gcm: the closure fill of stream.tag. Conditions: as each theorem states them. -/
namespace Go.Proofs.Ytieabfifaigjdaa
open Go.RowKit
/-- a variable in block g7 that holds a slice of its own -/
def VA (B g7 : Nat) (A : Option Addr) (n c : Nat) (L : List Int) (wr : World) : Prop :=
  Blk wr g7 22 #[.slice A n c] ∧ Own B 5 .u8 wr A n c L ∧ (∀ ad, A = some ad → ad.block ≠ g7) ∧ B ≤ g7
section
variable {B g7 n c : Nat} {A : Option Addr} {L : List Int} {wr w' : World}
theorem VA.below (h : VA B g7 A n c L wr) (hb : Below wr.heap.size wr w') : VA B g7 A n c L w' := ⟨h.1.below hb (Blk.lt h.1), h.2.1.below hb, h.2.2⟩
theorem VA.cell (h : VA B g7 A n c L wr) : wr.cell? ⟨g7, 0, none⟩ = some (.slice A n c) := by rw [Blk.cell h.1 0]; rfl
theorem VA.keep {zs : List Int} {A' : Option Addr} {n' c' : Nat} (h : VA B g7 A n c L wr) (q : Apd B 5 .u8 wr A zs A' n' c' w') : Blk w' g7 22 #[.slice A n c] :=
  Blk.grown h.1 q.2.1 (fun e => by
    rcases A with _ | ad
    · cases e
    · exact h.2.2.1 ad rfl (by injection e with e; exact e.symm))
theorem VA.put {zs : List Int} {A' : Option Addr} {n' c' : Nat} (h : VA B g7 A n c L wr) (q : Apd B 5 .u8 wr A zs A' n' c' w') : VA B g7 A' n' c' zs (w'.setCell ⟨g7, 0, none⟩ (.slice A' n' c')) := by
  have hA : ∀ ad, A' = some ad → ad.block ≠ g7 := fun ad e => by
    rcases q.2.2.2 with h1 | ⟨b, h1, h2⟩
    · exact h.2.2.1 ad (by rw [← h1, e])
    · rw [e] at h1
      injection h1 with h1
      subst h1
      have := Blk.lt h.1
      omega
  exact ⟨(VA.keep h q).set_ 0 _, q.1.farA hA _, hA, h.2.2.2⟩
end
theorem whL_eq (L : List Int) : whL L = L ++ List.replicate ((16 - L.length % 16) % 16) 0 := rfl
def padW (g7 : Nat) (w : World) : Nat := (16 - lenS ((w.cell? ⟨g7, 0, none⟩).getD undef) % 16) % 16
theorem padW_of {g7 n c : Nat} {A : Option Addr} {w : World} (h : w.cell? ⟨g7, 0, none⟩ = some (.slice A n c)) : padW g7 w = (16 - n % 16) % 16 := by unfold padW; rw [h]; rfl
attribute [irreducible] padW
set_option maxRecDepth 100000 in
set_option maxHeartbeats 4000000 in
theorem fill_any (B g7 n c : Nat) (A : Option Addr) (L : List Int) (w : World) (h : VA B g7 A n c L w) (hl : L.length ≤ 20000) :
    Calls Try.prog 61 #[.pointer (some ⟨g7, 0, none⟩)] w fun e w' => (∃ v, e = .returned v) ∧ ∃ A' n' c', VA B g7 A' n' c' (whL L) w' ∧ Below B w w' := by
  have HL := Lib.hid hl
  have H0 : Hid (VA B g7 A n c (L ++ List.replicate 0 0) w) := Lib.hid (by rw [List.replicate_zero, List.append_nil]; exact h)
  have HB0 : Hid (B ≤ w.heap.size) := Lib.hid (Nat.le_of_lt (Nat.lt_of_le_of_lt h.2.2.2 (Blk.lt h.1)))
  have HN0 : Hid (n = L.length + 0) := Lib.hid (by rw [h.2.1.len]; rfl)
  have HW := Lib.hid (whL_eq L)
  clear h hl
  go_enter Try.func61, Try.ntmps61
  go_wp2_with fail
  go_loopw [1] (fun _ wr => ∃ (j n c : Nat) (A : Option Addr), Hid (n = L.length + j) ∧ Hid (j ≤ (16 - L.length % 16) % 16) ∧ Hid (VA B g7 A n c (L ++ List.replicate j 0) wr) ∧ Hid (Below B w wr)) (fun _ wr => padW g7 wr)
  case atStart => exact ⟨0, n, c, A, HN0, Lib.hid (by omega), H0, Lib.hid (Below.refl _ _)⟩
  case round =>
    clear HN0 H0
    obtain ⟨j, n, c, A, HN, HJ, HV, HB⟩ := hrel
    have c0 := HV.out.cell
    by_cases hlt : n % 16 = 0
    · have hni : (n : Int) % 16 = 0 := by omega
      go_wp2_with fail
      go_end0
      exact ⟨⟨_, rfl⟩, A, n, c, by
        have h := HV.out
        have h1 := HN.out
        have h2 := HJ.out
        rw [HW.out, show (16 - L.length % 16) % 16 = j by omega]
        exact h, HB.out⟩
    · have hni : (n : Int) % 16 ≠ 0 := by omega
      have HBS := Lib.hid (Nat.le_trans HB0.out HB.out.size)
      have HV2 := Lib.hid (HV.out.below ((Below.refl wr.heap.size wr).alloc (Nat.le_refl _) (.cells #[.int .u8 0] 5)))
      go_wp2_with (at_builtin; refine wpList_app (o := ⟨some 7, _, _, _, _, _⟩) elB8 rfl _ _ rfl rfl rfl HV2.out.2.1 (Rd.newAt (xs := [0]) rfl rfl) rfl ?_ ?_ ?_; (have := HL.out; have := HJ.out; simp <;> omega); (have := HBS.out; simp <;> omega); intro A9 n9 c9 w9 q9; have V9 := Lib.hid (HV2.out.put q9); have K9 := HV2.out.keep q9; have k9 : w9.cell? ⟨g7, 0, none⟩ = some (.slice A n c) := (by rw [Blk.cell K9 0]; rfl); have f9 := Blk.frozen K9 0; have N9 : Hid (n9 = n + 1) := Lib.hid (by rw [q9.1.len, HV.out.2.1.len]; simp <;> omega); have B9 := Lib.hid (((HB.out.alloc HBS.out _).trans q9.2.2.1).setCell (p := ⟨g7, 0, none⟩) HV.out.2.2.2 (.slice A9 n9 c9)); clear q9 K9)
      have V8 : Hid (VA B g7 A9 n9 c9 (L ++ List.replicate (j + 1) 0) (w9.setCell ⟨g7, 0, none⟩ (.slice A9 n9 c9))) := Lib.hid (by
        have h := V9.out
        rwa [List.append_assoc, show List.replicate j (0 : Int) ++ [0] = List.replicate (j + 1) 0 from List.replicate_succ'.symm] at h)
      go_roundw
      case rel => exact ⟨j + 1, n9, c9, A9, Lib.hid (by have := N9.out; have := HN.out; omega), Lib.hid (by have := HN.out; have := HJ.out; omega), V8, B9⟩
      case measure =>
        rw [padW_of c0, padW_of V8.out.cell]
        have := N9.out
        omega
end Go.Proofs.Ytieabfifaigjdaa
/- Contract of gcm: stream.tag. Conditions: as each theorem states them. -/
namespace Go.Proofs.Ytieabfifaigjdaa
open Go.RowKit
theorem whL_mod (L : List Int) : (whL L).length % 16 = 0 := by unfold whL; rw [List.length_append, List.length_replicate]; omega
theorem whL_len (L : List Int) : (whL L).length ≤ L.length + 15 := by unfold whL; rw [List.length_append, List.length_replicate]; omega
theorem whL_app {X : List Int} (Y : List Int) (h : X.length % 16 = 0) : whL (X ++ Y) = X ++ whL Y := by
  unfold whL
  rw [List.append_assoc, List.length_append, show (X.length + Y.length) % 16 = Y.length % 16 by omega]
/-- the frame of tag: the stream, the result, the variable -/
def GF (w : World) (gc : Nat) (nonce : List Int) (g7 : Nat) (A : Option Addr) (n c : Nat) (L : List Int) (wr : World) : Prop :=
  VA (w.heap.size + 1 + 1) g7 A n c L wr ∧ Blk wr w.heap.size 75 (stV gc nonce).toArray ∧ Arr wr (w.heap.size + 1) 66 .u8 (nul 16) ∧ Below w.heap.size w wr
section
variable {w wr w' : World} {gc g7 n c : Nat} {nonce L : List Int} {A : Option Addr}
theorem GF.step {A' : Option Addr} {n' c' : Nat} {L' : List Int} (h : GF w gc nonce g7 A n c L wr) (hv : VA (w.heap.size + 1 + 1) g7 A' n' c' L' w') (hb : Below (w.heap.size + 1 + 1) wr w') : GF w gc nonce g7 A' n' c' L' w' :=
  ⟨hv, h.2.1.below hb (by omega), h.2.2.1.below hb (by omega), h.2.2.2.trans (hb.mono (by omega))⟩
theorem GF.below (h : GF w gc nonce g7 A n c L wr) (hb : Below wr.heap.size wr w') : GF w gc nonce g7 A n c L w' :=
  ⟨h.1.below hb, h.2.1.below hb (Blk.lt h.2.1), h.2.2.1.belowAll hb, h.2.2.2.trans (hb.mono h.2.2.2.size)⟩
theorem GF.size (h : GF w gc nonce g7 A n c L wr) : w.heap.size + 1 + 1 ≤ wr.heap.size := Nat.le_of_lt (Nat.lt_of_le_of_lt h.1.2.2.2 (Blk.lt h.1.1))
end
def ezL (n1 n2 : Nat) (Z : List Int) : Nat → List Int
  | 0 => Z
  | 1 => Z ++ byk 8 (8 * n1)
  | _ => Z ++ byk 8 (8 * n1) ++ byk 8 (8 * n2)
theorem ez_step (n1 n2 : Nat) (Z : List Int) {r : Nat} (hr : r < 2) (h1 : n1 ≤ 5000) (h2 : n2 ≤ 5000) : ∃ N : Nat, N ≤ 5000 ∧ ezL n1 n2 Z (r + 1) = ezL n1 n2 Z r ++ byk 8 (8 * N) ∧ ∀ v : World, (Instr.index 94 (.agg #[.int .i64 (n1 : Int), .int .i64 (n2 : Int)]) (.int .i64 (r : Int))).run Try.prog v = .ok (.int .i64 (N : Int)) v := by
  rcases (show r = 0 ∨ r = 1 by omega) with rfl | rfl
  · refine ⟨n1, h1, rfl, fun v => ?_⟩
    simp [Instr.index, run_underlying Try.underlying94, asIntOf, part, isAgg, run_underlying Try.underlying3]
  · refine ⟨n2, h2, rfl, fun v => ?_⟩
    simp [Instr.index, run_underlying Try.underlying94, asIntOf, part, isAgg, run_underlying Try.underlying3]
theorem ez_len (n1 n2 : Nat) (Z : List Int) (r : Nat) : (ezL n1 n2 Z r).length ≤ Z.length + 16 := by
  rcases r with _ | _ | r <;> simp [ezL, byk_len] <;> omega
set_option maxRecDepth 100000 in
set_option maxHeartbeats 8000000 in
theorem stag_any (gc n1 c1 n2 c2 : Nat) (A1 A2 : Option Addr) (K nonce aad text : List Int) (w : World) (hK : Blk16 K) (hn : nonce.length = 12) (hnb : Byt nonce) (hC : Ci w gc K) (h1 : aad.length = n1) (h2 : text.length = n2) (hb1 : Byt aad) (hb2 : Byt text)
    (hl1 : n1 ≤ 5000) (hl2 : n2 ≤ 5000) (hr1 : Rd w.heap.size .u8 w A1 aad) (hr2 : Rd w.heap.size .u8 w A2 text) :
    Calls Try.prog 42 #[.agg (stV gc nonce).toArray, .slice A1 n1 c1, .slice A2 n2 c2] w (RetV (.agg (cellsL .u8 (tagL K nonce aad text))) w) := by
  have HK := Lib.hid hK
  have HN := Lib.hid hn
  have HNB := Lib.hid hnb
  have HC := Lib.hid hC
  have HL1 := Lib.hid h1
  have HL2 := Lib.hid h2
  have HR2 := Lib.hid hr2
  have HFB := Lib.hid (fllL_byt hb1 hb2)
  have HFE : Hid (fllL aad text = (whL aad ++ whL text) ++ (byk 8 (8 * n1) ++ byk 8 (8 * n2))) := Lib.hid (by unfold fllL; rw [h1, h2])
  have HTE : Hid (tagL K nonce aad text = xaL (hashL (aesL K (nul 16)) (fllL aad text)) (ctrL K nonce 1)) := Lib.hid rfl
  have HW1 := Lib.hid (whL_mod aad)
  have HW2 : Hid ((whL aad).length ≤ 5015) := Lib.hid (by have := whL_len aad; omega)
  have HW3 : Hid ((whL text).length ≤ 5015) := Lib.hid (by have := whL_len text; omega)
  have HCO := Lib.hid (ctrL_ok hK hn hnb 1)
  have HAO := Lib.hid (aesL_ok hK z16_ok)
  have B0 : Hid (Below w.heap.size w ((w.alloc (.cells (stV gc nonce).toArray 75)).alloc (.cells (cellsL .u8 (nul 16)) 66))) := Lib.hid (((Below.refl _ _).alloc (Nat.le_refl _) _).alloc (by simp) _)
  have S0 : Hid (Blk ((w.alloc (.cells (stV gc nonce).toArray 75)).alloc (.cells (cellsL .u8 (nul 16)) 66)) w.heap.size 75 (stV gc nonce).toArray) := Lib.hid ((Blk.new _ _ _).alloc _)
  have R0 : Hid (Arr ((w.alloc (.cells (stV gc nonce).toArray 75)).alloc (.cells (cellsL .u8 (nul 16)) 66)) (w.heap.size + 1) 66 .u8 (nul 16)) := Lib.hid (Arr.newAt (by simp) rfl)
  have HR1 := Lib.hid (hr1.below B0.out (Nat.le_refl _))
  clear hK hn hnb hC h1 h2 hr1 hr2 hb1 hb2
  go_enter Try.func42, Try.ntmps42
  go_wp2_with (at_builtin; refine wpList_app (o := ⟨some 16, _, _, _, _, _⟩) elB8 rfl _ _ rfl rfl rfl (Own.nil (w.heap.size + 1 + 1) _ _ _) HR1.out HL1.out.symm ?_ ?_ ?_; (rw [HL1.out]; simp <;> omega); (simp); intro A3 n3 c3 w3 q3; have H3 : Hid (Own (w.heap.size + 1 + 1) 5 .u8 w3 A3 n3 c3 aad) := Lib.hid q3.1; have B3 := Lib.hid q3.2.2.1; clear q3)
  have hs3 : w.heap.size + 1 + 1 ≤ w3.heap.size := by have := B3.out.size; simp at this; omega
  have G0 : Hid (GF w gc nonce w3.heap.size A3 n3 c3 aad (w3.alloc (.cells #[.slice A3 n3 c3] 22))) := Lib.hid
    ⟨⟨Blk.new _ _ _, H3.out.alloc _, fun ad e => by have := (H3.out.block ad e).2; omega, hs3⟩, (S0.out.below B3.out (by omega)).alloc _, (R0.out.below B3.out (by omega)).alloc _, (B0.out.trans (B3.out.mono (by omega))).alloc (by omega) _⟩
  clear H3 B0 S0 R0 B3 HR1 hs3
  generalize w3.heap.size = g7 at *
  generalize w3.alloc (.cells #[.slice A3 n3 c3] 22) = w4 at *
  refine Calls.mono (fill_any _ g7 n3 c3 A3 aad _ G0.out.1 (by rw [HL1.out]; omega)) ?_
  rintro e w5 ⟨⟨v5, rfl⟩, A5, n5, c5, hv5, hb5⟩
  have G5 := Lib.hid (G0.out.step hv5 hb5)
  clear hv5 hb5 G0
  have k5 := G5.out.1.cell
  go_wp2_with (at_builtin; refine wpList_app (o := ⟨some 22, _, _, _, _, _⟩) elB8 rfl _ _ rfl rfl rfl G5.out.1.2.1 (HR2.out.below G5.out.2.2.2 (Nat.le_refl _)) HL2.out.symm ?_ ?_ ?_; (rw [HL2.out]; have := HW2.out; omega); (exact G5.out.size); intro A9 n9 c9 w9 q9; have V9 := Lib.hid (G5.out.1.put q9); have K9 := G5.out.1.keep q9; have k9 : w9.cell? ⟨g7, 0, none⟩ = some (.slice A5 n5 c5) := (by rw [Blk.cell K9 0]; rfl); have f9 := Blk.frozen K9 0; have B9 := Lib.hid (q9.2.2.1.setCell (p := ⟨g7, 0, none⟩) G5.out.1.2.2.2 (.slice A9 n9 c9)); clear q9 K9)
  have G9 := Lib.hid (G5.out.step V9.out B9.out)
  clear V9 B9 G5 k9 f9 k5
  generalize w9.setCell ⟨g7, 0, none⟩ (.slice A9 n9 c9) = w10 at *
  refine Calls.mono (fill_any _ g7 n9 c9 A9 (whL aad ++ text) _ G9.out.1 (by rw [List.length_append, HL2.out]; have := HW2.out; omega)) ?_
  rintro e w11 ⟨⟨v11, rfl⟩, A11, n11, c11, hv11, hb11⟩
  have G11 : Hid (GF w gc nonce g7 A11 n11 c11 (whL aad ++ whL text) w11) := Lib.hid (by
    have h := G9.out.step hv11 hb11
    rwa [whL_app text HW1.out] at h)
  clear hv11 hb11 G9
  have HZL : Hid ((whL aad ++ whL text).length ≤ 10030) := Lib.hid (by rw [List.length_append]; have := HW2.out; have := HW3.out; omega)
  generalize whL aad ++ whL text = Z at *
  have G12 : Hid (GF w gc nonce g7 A11 n11 c11 (ezL n1 n2 Z 0) w11) := G11
  clear G11
  go_wp2_with fail
  go_loopw [30] (fun ii wr => ∃ (r n c : Nat) (A : Option Addr), r ≤ 2 ∧ ii = .int .i64 r ∧ Hid (GF w gc nonce g7 A n c (ezL n1 n2 Z r) wr)) (fun ii _ => 2 - (intOf ii).toNat)
  case atStart => exact ⟨0, n11, c11, A11, by omega, rfl, G12⟩
  case round =>
    clear G12
    obtain ⟨r, n, c, A, hr, rfl, HG⟩ := hrel
    by_cases hr2 : r < 2
    · obtain ⟨N, hN, hez, hix⟩ := ez_step n1 n2 Z hr2 hl1 hl2
      have HEZ := Lib.hid hez
      have HEL : Hid ((ezL n1 n2 Z r).length ≤ 10046) := Lib.hid (by have := ez_len n1 n2 Z r; have := HZL.out; omega)
      have G13 : Hid (GF w gc nonce g7 A n c (ezL n1 n2 Z r ++ (byk 8 (8 * N)).take 0) wr) := Lib.hid (by rw [List.take_zero, List.append_nil]; exact HG.out)
      clear hez HG
      generalize ezL n1 n2 Z r = E at *
      go_wp2_with fail
      clear hix
      generalize hbn : decide ((r : Int) < 2) = bn
      clear hbn
      go_loopw [11] (fun ii wr => ∃ (j n c : Nat) (A : Option Addr), j ≤ 8 ∧ ii = .int .i64 (7 - (j : Int)) ∧ Hid (GF w gc nonce g7 A n c (E ++ (byk 8 (8 * N)).take j) wr)) (fun ii _ => (intOf ii + 1).toNat)
      case atStart => exact ⟨0, n, c, A, by omega, rfl, G13⟩
      case round =>
        clear G13
        obtain ⟨j, n, c, A, hj, rfl, HG⟩ := hrel
        by_cases hj8 : j < 8
        · have hC : ∀ q : CW (fun v : World => v.cell? ⟨g7, 0, none⟩ = some (.slice A n c)), q.world.cell? ⟨g7, 0, none⟩ = some (.slice A n c) := fun q => q.holds
          have hne : Nonempty (CW (fun v : World => v.cell? ⟨g7, 0, none⟩ = some (.slice A n c))) := CW.inh HG.out.1.cell
          have HC0 := Lib.hid HG.out.1.cell
          have e1 : (8 * (7 - (j : Int))).toNat = 8 * (7 - j) := by omega
          go_wp2_with fail
          refine wp_region_mixO (fun v' : World => ∃ r : CW (fun v : World => v.cell? ⟨g7, 0, none⟩ = some (.slice A n c)), v' = r.world) [([0, 1, 2, 3, 4, 5, 6, 7], 8), ([], 9), ([], 10)] (by kernel_rfl) (by kernel_rfl) (by kernel_rfl) (by kernel_rfl) (by kernel_rfl) ⟨CW.mk' (w := wr.drew) HC0.out, rfl⟩ ?_
          simp only [pickL, List.map_cons, List.map_nil, List.filterMap_cons, List.filterMap_nil, List.getElem?_cons_succ, List.getElem?_cons_zero]
          refine mixO_cons ?_
          repeat (show wpQuiet _ _ _ _ (_ :: _) _; go_big_quiet_step (fail))
          refine wpQuiet_nil ?_
          show wpList _ _ _ [_] _ _
          go_wp2_with fail
          have HV : (N : Int) * 8 / 2 ^ (8 * (7 - j)) % 256 = ((8 * N / 256 ^ (8 - 1 - j) % 256 : Nat) : Int) := by
            rw [show (N : Int) * 8 = ((8 * N : Nat) : Int) by omega, castdiv, pow256_2]; rfl
          have HBS := Lib.hid (byk_snoc (m := 8) (n := 8 * N) hj8)
          rw [← HV] at HBS
          generalize (N : Int) * 8 / 2 ^ (8 * (7 - j)) % 256 = y at *
          have HGA := Lib.hid (HG.out.below ((Below.refl wr.heap.size wr).alloc (Nat.le_refl _) (.cells #[.int .u8 y] 5)).drew)
          have HRA : Hid (Rd (wr.heap.size + 1) .u8 (wr.alloc (.cells #[.int .u8 y] 5)).drew (some ⟨wr.heap.size, 0, none⟩) [y]) := Lib.hid (Rd.drew (Rd.newAt (xs := [y]) rfl rfl))
          have HTL : Hid ((E ++ (byk 8 (8 * N)).take j).length ≤ 10100) := Lib.hid (by rw [List.length_append, List.length_take, byk_len]; have := HEL.out; omega)
          have HGS := HG.out.size
          clear HV HG HC0
          generalize (wr.alloc (.cells #[.int .u8 y] 5)).drew = wa at *
          refine MixO.narrow (fun _ h => h) (⟨CW.mk' (w := wa) HGA.out.1.cell, rfl⟩) ?_
          refine mixO_cons ?_
          refine wpQuiet_nil ?_
          show wpList _ _ _ [_] _ _
          go_wp2_with (at_builtin; refine wpList_app (o := ⟨some 46, _, _, _, _, _⟩) elB8 rfl _ _ rfl rfl rfl HGA.out.1.2.1 HRA.out rfl ?_ ?_ ?_; (have := HTL.out; simp only [List.length_cons, List.length_nil]; omega); (exact HGA.out.size); intro A9 n9 c9 w9 q9; have V9 := Lib.hid (HGA.out.1.put q9); have K9 := HGA.out.1.keep q9; have k9 : w9.cell? ⟨g7, 0, none⟩ = some (.slice A n c) := (by rw [Blk.cell K9 0]; rfl); have f9 := Blk.frozen K9 0; have B9 := Lib.hid (q9.2.2.1.setCell (p := ⟨g7, 0, none⟩) HGA.out.1.2.2.2 (.slice A9 n9 c9)); clear q9 K9)
          refine MixO.narrow (fun _ h => h) (⟨CW.mk' (w := w9) k9, rfl⟩) ?_
          refine mixO_cons ?_
          refine wpQuiet_nil ?_
          show wpList _ _ _ [_] _ _
          go_wp2_with fail
          refine MixO.last ?_
          refine mixO_nil ?_
          refine wpQuiet_nil ?_
          refine NoPanic.normal ?_
          have G9 : Hid (GF w gc nonce g7 A9 n9 c9 (E ++ (byk 8 (8 * N)).take (j + 1)) (w9.setCell ⟨g7, 0, none⟩ (.slice A9 n9 c9))) := Lib.hid (by
            have h := HGA.out.step V9.out B9.out
            rwa [List.append_assoc, ← HBS.out] at h)
          clear V9 B9 HGA HRA k9 f9 hC hne e1 HBS HTL
          go_wp2_with fail
          go_roundw
          case rel => exact ⟨j + 1, n9, c9, A9, by omega, by go_num, G9⟩
          case measure => simp [intOf]; omega
        · have G9 : Hid (GF w gc nonce g7 A n c (ezL n1 n2 Z (r + 1)) wr) := Lib.hid (by
            have h := HG.out
            rwa [List.take_of_length_le (l := byk 8 (8 * N)) (by rw [byk_len]; omega), ← HEZ.out] at h)
          have hj88 : j = 8 := by omega
          subst hj88
          clear HG
          go_wp2_with fail
          go_roundw
          case rel => exact ⟨r + 1, n, c, A, by omega, by go_num, G9⟩
          case measure => simp [intOf]; omega
    · have hr22 : r = 2 := by omega
      have G9 : Hid (GF w gc nonce g7 A n c (fllL aad text) wr) := Lib.hid (by
        have h := HG.out
        rw [hr22, show ezL n1 n2 Z 2 = Z ++ (byk 8 (8 * n1) ++ byk 8 (8 * n2)) from List.append_assoc _ _ _] at h
        rw [HFE.out]
        exact h)
      clear HG
      have HFN := Lib.hid G9.out.1.2.1.len
      generalize fllL aad text = F at *
      have c0 : wr.cell? ⟨w.heap.size, 0, none⟩ = some (.pointer (some ⟨gc, 0, none⟩)) := by rw [Blk.cell G9.out.2.1 0]; rfl
      have p0 : ∀ q : BW wr.heap.size wr, q.world.cell? ⟨w.heap.size, 0, none⟩ = some (.pointer (some ⟨gc, 0, none⟩)) := fun q => by rw [Blk.cell (Blk.below G9.out.2.1 q.below (Blk.lt G9.out.2.1)) 0]; rfl
      have p1 : ∀ q : BW wr.heap.size wr, q.world.cell? ⟨g7, 0, none⟩ = some (.slice A n c) := fun q => (G9.out.1.below q.below).cell
      go_wp2_with fail
      refine wp_region_mixVB [⟨6, 12, 66, cellsL .u8 (nul 16)⟩] 7 [([0, 1, 2, 4], 3), ([], 5)] (by kernel_rfl) (by kernel_rfl) (by kernel_rfl) (by kernel_rfl) (by kernel_rfl) (by kernel_rfl) (by kernel_rfl) (by kernel_rfl) (by kernel_rfl) ?_ ?_
      · refine ⟨⟨by decide, _, rfl, ?_⟩, trivial⟩
        exact ⟨rfl, rfl, by kernel_rfl, al16 _ rfl⟩
      simp only [pickL, List.map_cons, List.map_nil, List.filterMap_cons, List.filterMap_nil, List.getElem?_cons_succ, List.getElem?_cons_zero]
      refine mixV_cons ?_
      repeat (show wpQuiet _ _ _ _ (_ :: _) _; go_big_quiet_step (fail))
      refine wpQuiet_nil ?_
      rintro x0 ⟨r0, rfl⟩
      show wpList _ _ _ [_] _ _
      go_wp2_with fail
      refine Calls.mono (aseal_any gc K (nul 16) _ HK.out z16_ok (HC.out.below (G9.out.2.2.2.trans (r0.below.mono G9.out.2.2.2.size)) HC.out.lt)) ?_
      rintro e x1 ⟨rfl, hb1⟩
      have X1 := Lib.hid (r0.below.trans (hb1.mono r0.below.size))
      obtain ⟨H, hH⟩ : ∃ H, aesL K (nul 16) = H := ⟨_, rfl⟩
      have HHO : Hid (Blk16 H) := Lib.hid (by rw [← hH]; exact HAO.out)
      have HHE := Lib.hid hH
      rw [hH]
      clear hH
      go_wp2_with fail
      refine MixV.bw r0.below r0.below.size hb1 ?_
      clear hb1
      refine mixV_cons ?_
      refine wpQuiet_nil ?_
      rintro x2 ⟨r2, rfl⟩
      have X2 := Lib.hid (X1.out.trans (r2.below.mono X1.out.size))
      show wpList _ _ _ [_] _ _
      go_wp2_with fail
      refine Calls.mono (hash_any A n c H F _ HHO.out HFB.out HFN.out.symm G9.out.1.2.1.cap.1 ((G9.out.below X2.out).1.2.1.rd)) ?_
      rintro e x3 ⟨rfl, hb3⟩
      have X3 := Lib.hid (X2.out.trans (hb3.mono X2.out.size))
      have HTE2 : Hid (tagL K nonce aad text = xaL (hashL H F) (ctrL K nonce 1)) := Lib.hid (by rw [HTE.out, HHE.out])
      have HQL := Lib.hid (hashL_len H F)
      generalize hashL H F = Q at *
      go_wp2_with fail
      refine MixV.bw r2.below r2.below.size hb3 ?_
      refine mixV_nil ?_
      rintro x4 ⟨r4, rfl⟩
      intro γ hγ hd
      obtain ⟨g4, e4, hN4, hB4⟩ := hγ _ (List.mem_cons_self ..)
      simp only at e4 hB4
      simp only [putsA, step1, e4, List.drop_succ_cons, List.drop_zero, Act.put, ptr0, List.setIfInBounds_toArray, List.set_cons_zero, List.set_cons_succ]
      have X4 := Lib.hid (X3.out.trans (r4.below.mono X3.out.size))
      have Z4 := Lib.hid hB4
      clear hB4 hb3 hγ hd e4 X1 X2 X3 HTE HHE c0 p0 p1
      go_wp2_with ((with_reducible (show wpList _ _ _ (⟨none, .store 66 _ _, _, _, _, _⟩ :: _) _ _)); refine wpList_storeArr (o := ⟨none, .store 66 _ _, _, _, _, _⟩) (g := g4) (t := 66) (k := .u8) (xs := Q) (n := 16) rfl _ _ rfl rfl rfl Z4.out sizeE16 HQL.out.symm rfl ?_; intro w5 ha5 hg5; have A5 := Lib.hid ha5; have B5 := Lib.hid (X4.out.trans (below_of_only hg5 hN4 X4.out.size)); clear ha5 hg5)
      refine NoPanic.normal ?_
      have hg6 : w.heap.size + 1 < g4 := by have := G9.out.2.2.1.lt; omega
      have hg60 : w.heap.size ≤ g4 := by omega
      have R5 := Lib.hid (G9.out.2.2.1.belowAll B5.out)
      have S5 := Lib.hid (G9.out.2.1.below B5.out (Blk.lt G9.out.2.1))
      have W5 := Lib.hid (G9.out.2.2.2.trans (B5.out.mono G9.out.2.2.2.size))
      clear G9 B5 X4 Z4 hN4 HFB HFN HFE
      have L54 := Lib.hid (blk_load (P := Try.prog) S5.out Try.underlying75 rfl (by rw [List.size_toArray, stV_len gc HN.out]; exact size90))
      go_wp2_with ((with_reducible (show wpList _ _ _ (⟨some 54, .load _ _, _, _, _, _⟩ :: _) _ _)); refine wpList_loadV (o := ⟨some 54, .load _ _, _, _, _, _⟩) rfl _ rfl rfl (L54.out) ?_)
      refine Calls.mono (sblock_any gc 1 K nonce _ HK.out HN.out HNB.out (HC.out.below W5.out HC.out.lt)) ?_
      rintro e w7 ⟨rfl, hb7⟩
      have R7 := Lib.hid (R5.out.belowAll hb7)
      have A7 : Hid (Arr w7 g4 66 .u8 (mixL Q (tagL K nonce aad text) 0)) := Lib.hid (by rw [mix_zero]; exact A5.out.belowAll hb7)
      have W7 := Lib.hid (W5.out.trans (hb7.mono W5.out.size))
      have HTG : Hid (∀ k, k < 16 → (tagL K nonce aad text).getD k 0 = xb (Q.getD k 0) ((ctrL K nonce 1).getD k 0)) := Lib.hid (fun k _ => by rw [HTE2.out, xaL_getD (by rw [HQL.out, HCO.out.1])])
      have HTL : Hid ((tagL K nonce aad text).length = 16) := Lib.hid (by rw [HTE2.out, xaL_len (by rw [HQL.out, HCO.out.1]), HQL.out])
      have HCL := Lib.hid HCO.out.1
      clear hb7 R5 A5 W5 S5 L54 HTE2 HCO
      generalize ctrL K nonce 1 = S at *
      generalize tagL K nonce aad text = T at *
      go_wp2_with fail
      go_loopw [56] (fun ii wr => ∃ k : Nat, k ≤ 16 ∧ ii = .int .i64 k ∧ Hid (Arr wr g4 66 .u8 (mixL Q T k)) ∧ Hid (Arr wr (w.heap.size + 1) 66 .u8 (nul 16)) ∧ Hid (Below w.heap.size w wr)) (fun ii _ => 16 - (intOf ii).toNat)
      case atStart => exact ⟨0, by omega, rfl, A7, R7, W7⟩
      case round =>
        clear A7 R7 W7
        obtain ⟨k, hk, rfl, HA, HRR, HW⟩ := hrel
        by_cases hlt : k < 16
        · have hix := fun v => idxB (P := Try.prog) Try.underlying66 Try.underlying5 elB8.size HCL.out (k := .u8) hlt .i64 v
          have HE := Lib.hid (HTG.out k hlt)
          have hml : Hid ((mixL Q T k).length = 16) := Lib.hid (by rw [mix_len (by rw [HQL.out, HTL.out]) (by rw [HQL.out]; omega), HQL.out])
          have c1 : wr.cell? ⟨g4, k, none⟩ = some (.int .u8 (Q.getD k 0)) := by
            have := HA.out.cell (i := k) (by rw [hml.out]; exact hlt)
            rwa [mix_get (by rw [HQL.out, HTL.out]) (Nat.le_refl _)] at this
          have f1 := HA.out.frozen k
          have HMS := Lib.hid (mix_set (xs := Q) (ys := T) (k := k) (by rw [HQL.out, HTL.out]) (by rw [HQL.out]; exact hlt))
          rw [HE.out] at HMS
          generalize S.getD k 0 = y at *
          generalize Q.getD k 0 = x at *
          go_wp2_with fail
          clear c1 f1 hix HE hml
          go_roundw
          case rel => exact ⟨k + 1, by omega, by go_num, Lib.hid (Arr.cast (HA.out.set k _) HMS.out), Lib.hid (HRR.out.far (by simp; omega) _), Lib.hid (HW.out.setCell hg60 _)⟩
          case measure => simp [intOf]; omega
        · have HA2 : Hid (Arr wr g4 66 .u8 T) := Lib.hid (Arr.cast HA.out (mix_past (by rw [HQL.out, HTL.out]) (by rw [HQL.out]; omega)))
          have L67 := Lib.hid (arr_load HA2.out Try.underlying66 sizeE16 HTL.out.symm)
          obtain ⟨w8, hs8, hz8, hg8⟩ := blk_storeAll (P := Try.prog) (ty := 66) (vs := iv .u8 T) HRR.out (by rw [iv_len, HTL.out, List.size_toArray, List.length_map, nul_len]) (iv_one _ _) (by rw [iv_len, HTL.out]; exact sizeE16)
          have S8 := Lib.hid hs8
          have Z8 := Lib.hid hz8
          have B8 := Lib.hid (HW.out.trans (below_of_only hg8 (by omega) HW.out.size))
          clear hs8 hz8 hg8 HA HRR HW
          go_wp2_with (first
            | ((with_reducible (show wpList _ _ _ (⟨some 67, .load _ _, _, _, _, _⟩ :: _) _ _)); refine wpList_loadV (o := ⟨some 67, .load _ _, _, _, _, _⟩) rfl _ rfl rfl (L67.out) ?_)
            | ((with_reducible (show wpList _ _ _ (⟨none, .store 66 _ _, _, _, _, _⟩ :: _) _ _)); refine wpList_storeV (o := ⟨none, .store 66 _ _, _, _, _, _⟩) rfl _ _ rfl rfl rfl (S8.out) ?_))
          refine ret_row rfl rfl Z8.out Try.underlying66 rfl (by rw [List.size_toArray, iv_len, HTL.out]; exact sizeE16) rfl ⟨rfl, B8.out⟩
end Go.Proofs.Ytieabfifaigjdaa
/- Contract of gcm: Seal. Conditions: as each theorem states them. -/
namespace Go.Proofs.Ytieabfifaigjdaa
open Go.RowKit
def stZ : List Value := .pointer none :: iv .u8 (nul 12)
theorem st_eq (parts : List (Nat × Value)) : Try.prog.built 75 parts = Instr.fill ((#[(0, 1), (1, 12)] : Array (Nat × Nat))[·]?) stZ.toArray parts := by kernel_rfl
theorem fill_agg (place : Nat → Option (Nat × Nat)) (cs : Array Value) (i : Nat) (v : Value) (rest : List (Nat × Value)) : Instr.fill place cs ((i, v) :: rest) = Instr.fill place cs ((i, .agg v.cells) :: rest) := by
  rw [Instr.fill, Instr.fill]; rfl
theorem st_built (gc : Nat) {nonce : List Int} (h : nonce.length = 12) : Try.prog.built 75 [(0, .pointer (some ⟨gc, 0, none⟩)), (1, .agg (cellsL .u8 nonce))] = some (stV gc nonce).toArray := by
  rw [st_eq, fill_agg]
  rw [show (Value.pointer (some (⟨gc, 0, none⟩ : Addr))).cells = ([Value.pointer (some ⟨gc, 0, none⟩)]).toArray from rfl]
  rw [fill_step (off := 0) (size := 1) _ rfl rfl (by decide)]
  simp only [← iv_cells]
  have e1 : ovl stZ 0 [Value.pointer (some (⟨gc, 0, none⟩ : Addr))] = [Value.pointer (some ⟨gc, 0, none⟩)] ++ (iv .u8 (nul 12) ++ []) := by
    have := over_at (A := []) (B := [Value.pointer none]) (C := iv .u8 (nul 12)) (vs := [Value.pointer (some (⟨gc, 0, none⟩ : Addr))]) (o := 0) rfl rfl
    simpa [stZ] using this
  rw [e1, fill_step (off := 1) (size := 12) _ rfl (by rw [iv_len, h]) (by simp [iv_len, nul_len])]
  rw [over_at (by rfl) (by rw [iv_len, iv_len, h, nul_len])]
  rw [Instr.fill, stV_cut]
theorem al90 (o : Oper) (ho : o.op = .alloc 75) (ρ : Operand → Value) (w : World) : (execOp ρ o).run Try.prog w = .ok (.value (ptr0 w.heap.size)) (w.alloc (.cells stZ.toArray 75)) := by
  obtain ⟨d, op, ty, p, af, g⟩ := o
  simp only at ho
  subst ho
  kernel_rfl
theorem stV_one (gc : Nat) (nonce : List Int) : ∀ v ∈ stV gc nonce, v.oneCell' = true := fun v hv => by
  unfold stV at hv
  rcases List.mem_cons.1 hv with h | h
  · subst h; rfl
  · exact iv_one _ _ v h
theorem size51 : (Try.prog.info? 67).map (·.size) = some 12 := by kernel_rfl
set_option maxRecDepth 100000 in
set_option maxHeartbeats 8000000 in
theorem gseal_any (n1 c1 n2 c2 : Nat) (A1 A2 : Option Addr) (K nonce aad text : List Int) (w : World) (hK : Blk16 K) (hn : nonce.length = 12) (hnb : Byt nonce) (h1 : aad.length = n1) (h2 : text.length = n2) (hb1 : Byt aad)
    (hl1 : n1 ≤ 5000) (hl2 : n2 ≤ 5000) (hr1 : Rd w.heap.size .u8 w A1 aad) (hr2 : Rd w.heap.size .u8 w A2 text) :
    Calls Try.prog 32 #[.agg (cellsL .u8 K), .agg (cellsL .u8 nonce), .slice A1 n1 c1, .slice A2 n2 c2] w (RetOwn 5 .u8 (gsealL K nonce aad text) w) := by
  have HK := Lib.hid hK
  have HN := Lib.hid hn
  have HNB := Lib.hid hnb
  have HL1 := Lib.hid h1
  have HL2 := Lib.hid h2
  have HB1 := Lib.hid hb1
  have HR1 := Lib.hid hr1
  have HR2 := Lib.hid hr2
  have HGE : Hid (gsealL K nonce aad text = turnL K nonce text ++ tagL K nonce aad (turnL K nonce text)) := Lib.hid rfl
  have HTL : Hid ((turnL K nonce text).length = n2) := Lib.hid (by rw [turnL_len, h2])
  have HTB := Lib.hid (turnL_byt K nonce text)
  have HGL := Lib.hid (tagL_len hK hn hnb aad (turnL K nonce text))
  have HSB : Hid (∀ gc, Try.prog.built 75 [(0, .pointer (some ⟨gc, 0, none⟩)), (1, .agg (cellsL .u8 nonce))] = some (stV gc nonce).toArray) := Lib.hid (fun gc => st_built gc hn)
  have B0 : Hid (Below w.heap.size w ((w.alloc (.cells (cellsL .u8 K) 66)).alloc (.cells (cellsL .u8 nonce) 67))) := Lib.hid (((Below.refl _ _).alloc (Nat.le_refl _) _).alloc (by simp) _)
  have K0 : Hid (Arr ((w.alloc (.cells (cellsL .u8 K) 66)).alloc (.cells (cellsL .u8 nonce) 67)) w.heap.size 66 .u8 K) := Lib.hid ((Arr.newAt rfl rfl).alloc _)
  have N0 : Hid (Arr ((w.alloc (.cells (cellsL .u8 K) 66)).alloc (.cells (cellsL .u8 nonce) 67)) (w.heap.size + 1) 67 .u8 nonce) := Lib.hid (Arr.newAt (by simp) rfl)
  clear hK hn hnb h1 h2 hb1 hr1 hr2
  go_enter Try.func32, Try.ntmps32
  go_wp2_with fail
  obtain ⟨w2, hw2⟩ : ∃ w2, ((w.alloc (.cells (cellsL .u8 K) 66)).alloc (.cells (cellsL .u8 nonce) 67)) = w2 := ⟨_, rfl⟩
  rw [hw2] at B0 K0 N0 ⊢
  have hs2 : w.heap.size + 1 + 1 = w2.heap.size := by rw [← hw2]; simp
  clear hw2
  have hk0 := K0.out.lt
  have hn0 := N0.out.lt
  refine wp_region_mixVB [⟨4, 9, 75, stZ.toArray⟩] 5 [([0, 2], 1), ([], 3)] (by kernel_rfl) (by kernel_rfl) (by kernel_rfl) (by kernel_rfl) (by kernel_rfl) (by kernel_rfl) (by kernel_rfl) (by kernel_rfl) (by kernel_rfl) ?_ ?_
  · refine ⟨⟨by decide, _, rfl, ?_⟩, trivial⟩
    exact ⟨rfl, rfl, by kernel_rfl, al90 _ rfl⟩
  simp only [pickL, List.map_cons, List.map_nil, List.filterMap_cons, List.filterMap_nil, List.getElem?_cons_succ, List.getElem?_cons_zero]
  refine mixV_cons ?_
  show wpQuiet _ _ _ _ (_ :: _) _
  refine wpQuiet_loadV (o := ⟨some 12, _, _, _, _, _⟩) rfl _ rfl rfl (fun w' hw' => by obtain ⟨r, rfl⟩ := hw'; exact arr_load (K0.out.below r.below hk0) Try.underlying66 sizeE16 HK.out.1.symm) ?_
  simp only [Act.put, List.setIfInBounds_toArray, List.set_cons_zero, List.set_cons_succ]
  show wpQuiet _ _ _ _ (_ :: _) _
  refine wpQuiet_loadV (o := ⟨some 14, _, _, _, _, _⟩) rfl _ rfl rfl (fun w' hw' => by obtain ⟨r, rfl⟩ := hw'; exact arr_load (N0.out.below r.below hn0) Try.underlying67 size51 HN.out.symm) ?_
  simp only [Act.put, List.setIfInBounds_toArray, List.set_cons_zero, List.set_cons_succ]
  refine wpQuiet_nil ?_
  rintro x0 ⟨r0, rfl⟩
  show wpList _ _ _ [_] _ _
  go_wp2_with fail
  refine Calls.mono (anew_any K _ HK.out) ?_
  rintro e x1 ⟨gc, rfl, hgc, hc1, hb1⟩
  have C1 := Lib.hid hc1
  have X1 := Lib.hid (r0.below.trans (hb1.mono r0.below.size))
  have hsb := HSB.out gc
  clear hc1
  go_wp2_with fail
  refine MixV.bw r0.below r0.below.size hb1 ?_
  clear hb1
  refine mixV_cons ?_
  refine wpQuiet_nil ?_
  rintro x2 ⟨r2, rfl⟩
  show wpList _ _ _ [_] _ _
  go_wp2_with ((with_reducible (show wpList _ _ _ (⟨some 15, _, _, _, _, _⟩ :: _) _ _)); refine wpList_buildV (o := ⟨some 15, _, _, _, _, _⟩) rfl _ rfl hsb ?_)
  refine MixV.bw r2.below r2.below.size (Below.refl _ _) ?_
  refine mixV_nil ?_
  rintro x4 ⟨r4, rfl⟩
  intro γ hγ hd
  obtain ⟨g4, e4, hN4, hB4⟩ := hγ _ (List.mem_cons_self ..)
  simp only at e4 hB4
  simp only [putsA, step1, e4, Act.put, ptr0, List.setIfInBounds_toArray, List.set_cons_zero, List.set_cons_succ]
  have X2 := Lib.hid (X1.out.trans (r2.below.mono X1.out.size))
  have X4 := Lib.hid (X2.out.trans (r4.below.mono X2.out.size))
  have C4 := Lib.hid ((C1.out.all r2.below).all r4.below)
  obtain ⟨w5, hs5, hz5, hg5⟩ := blk_storeAll (P := Try.prog) (ty := 75) (vs := stV gc nonce) hB4 (by rw [stV_len gc HN.out]; rfl) (stV_one _ _) (by rw [stV_len gc HN.out]; exact size90)
  have S5 := Lib.hid hs5
  have Z5 := Lib.hid hz5
  have B5 := Lib.hid (X4.out.trans (below_of_only hg5 hN4 X4.out.size))
  have hge : gc ≠ g4 := Blk.ne_ C4.out hB4 (by decide)
  have C5 := Lib.hid (Ci.grown C4.out hg5 (fun e => hge (by injection e)))
  clear hs5 hz5 hg5 hB4 hγ hd e4 X1 X2 X4 C1 C4 hsb K0 N0
  go_wp2_with ((with_reducible (show wpList _ _ _ (⟨none, .store 75 _ _, _, _, _, _⟩ :: _) _ _)); refine wpList_storeV (o := ⟨none, .store 75 _ _, _, _, _, _⟩) rfl _ _ rfl rfl rfl (S5.out) ?_)
  refine NoPanic.normal ?_
  have W5 := Lib.hid (B0.out.trans (B5.out.mono B0.out.size))
  have hg4 := Blk.lt Z5.out
  have L16 := Lib.hid (blk_load (P := Try.prog) Z5.out Try.underlying75 rfl (by rw [List.size_toArray, stV_len gc HN.out]; exact size90))
  clear S5 B5 B0 hge hgc hN4 hk0 hn0
  go_wp2_with ((with_reducible (show wpList _ _ _ (⟨some 16, .load _ _, _, _, _, _⟩ :: _) _ _)); refine wpList_loadV (o := ⟨some 16, .load _ _, _, _, _, _⟩) rfl _ rfl rfl (L16.out) ?_)
  refine Calls.mono (sturn_any gc n2 c2 A2 K nonce text _ HK.out HN.out HNB.out C5.out HL2.out (by omega) ((HR2.out.below W5.out (Nat.le_refl _)).mono W5.out.size)) ?_
  rintro e w6 ⟨A6, n6, c6, rfl, ho6, hb6⟩
  obtain rfl : n6 = n2 := by rw [ho6.len, HTL.out]
  have O6 := Lib.hid ho6
  have Z6 := Lib.hid (Z5.out.below hb6 hg4)
  have C6 := Lib.hid (C5.out.all hb6)
  have W6 := Lib.hid (W5.out.trans (hb6.mono W5.out.size))
  have L19 := Lib.hid (blk_load (P := Try.prog) Z6.out Try.underlying75 rfl (by rw [List.size_toArray, stV_len gc HN.out]; exact size90))
  have HOB := Lib.hid W5.out.size
  clear hb6 ho6 L16 Z5 C5 W5
  generalize turnL K nonce text = T at *
  go_wp2_with ((with_reducible (show wpList _ _ _ (⟨some 19, .load _ _, _, _, _, _⟩ :: _) _ _)); refine wpList_loadV (o := ⟨some 19, .load _ _, _, _, _, _⟩) rfl _ rfl rfl (L19.out) ?_)
  refine Calls.mono (stag_any gc n1 c1 n6 c6 A1 A6 K nonce aad T _ HK.out HN.out HNB.out C6.out HL1.out HTL.out HB1.out HTB.out hl1 hl2 ((HR1.out.below W6.out (Nat.le_refl _)).mono W6.out.size) O6.out.rd) ?_
  rintro e w7 ⟨rfl, hb7⟩
  have O7 := Lib.hid (O6.out.below hb7)
  have W7 := Lib.hid (W6.out.trans (hb7.mono W6.out.size))
  have hob : w.heap.size ≤ w7.heap.size := W7.out.size
  clear hb7 L19 O6 C6 Z6
  generalize tagL K nonce aad T = G at *
  go_wp2_with (first
    | ((with_reducible (show wpList _ _ _ (⟨none, .store 66 _ _, _, _, _, _⟩ :: _) _ _)); refine wpList_storeArr (o := ⟨none, .store 66 _ _, _, _, _, _⟩) (g := w7.heap.size) (t := 66) (k := .u8) (xs := G) (n := 16) rfl _ _ rfl rfl rfl (Blk.new _ _ _) sizeE16 HGL.out.symm rfl ?_; intro w8 ha8 hg8; have A8 := Lib.hid ha8; have B8 := Lib.hid (((Below.refl w7.heap.size w7).alloc (Nat.le_refl _) _).trans (below_of_only hg8 (Nat.le_refl _) (by simp))); have O8 := Lib.hid (O7.out.below B8.out); have W8 := Lib.hid (W7.out.trans (B8.out.mono W7.out.size)); clear ha8 hg8)
    | (at_builtin; refine wpList_app (o := ⟨some 25, _, _, _, _, _⟩) elB8 rfl _ _ rfl rfl rfl (O8.out.mono HOB.out) A8.out.rd HGL.out.symm ?_ ?_ ?_; (rw [HTL.out, HGL.out]; omega); (exact W8.out.size); intro A9 n9 c9 w9 q9; have O9 : Hid (Own w.heap.size 5 .u8 w9 A9 n9 c9 (gsealL K nonce aad text)) := Lib.hid (by rw [HGE.out]; exact q9.1); have W9 := Lib.hid (W8.out.trans q9.2.2.1); clear q9))
  go_ret
  exact ⟨A9, n9, c9, rfl, O9.out, W9.out⟩
end Go.Proofs.Ytieabfifaigjdaa
/- Contract of gcm: Open. Conditions: as each theorem states them. -/
namespace Go.Proofs.Ytieabfifaigjdaa
open Go.RowKit
theorem slice_hN {P : Program} {t e : TypeId} {k : IntKind} {bytes B n c : Nat} {w : World} {A : Option Addr} {xs : List Int} (E : ElT P t e k bytes) (hr : Rd B k w A xs) (hn : xs.length = n) (hc : n ≤ c) (m : Nat) (h2 : m ≤ n) :
    ∃ A' c', m ≤ c' ∧ c' ≤ c ∧ Rd B k w A' (xs.take m) ∧ (xs.take m).length = m ∧
      ∀ (w : World) (kh : IntKind), (Instr.sliceAt t (.slice A n c) none (some (.int kh (m : Int))) none).run P w = .ok (.slice A' m c') w := by
  subst hn; exact slice_h E hr hc (m : Int) m (by omega) rfl
theorem neq16 {X Y : List Int} (hX : X.length = 16) (hY : Y.length = 16) (hbX : Byt X) (hbY : Byt Y) (w : World) : (binOp .neq 66 (.agg (cellsL .u8 X)) (.agg (cellsL .u8 Y))).run Try.prog w = .ok (.bool (!decide (X = Y))) w := by
  have h := eql16E hX hY hbX hbY w
  rw [run_eql_struct] at h
  rw [run_neq_struct]
  generalize (Op.equalIn 10000 66 (.agg (cellsL .u8 X)) (.agg (cellsL .u8 Y))).run Try.prog w = R at *
  cases R with
  | ok b w' =>
    simp only [Result.andThen_ok] at h ⊢
    injection h with h1 h2
    injection h1 with h1
    rw [h1, h2]
  | halt x w' => cases h
/-- what Open hands back -/
def OpenPost (o : Option (List Int)) (w : World) (e : Ending) (w' : World) : Prop :=
  match o with
  | some T => RetOwn2 5 .u8 T (.bool true) w e w'
  | none => e = .returned (.tuple #[.slice none 0 0, .bool false]) ∧ Below w.heap.size w w'
end Go.Proofs.Ytieabfifaigjdaa
