/- All functions. -/
import Derived.Test.YtibiblkamaajeaaGreatFin41b
